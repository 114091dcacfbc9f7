/-
  Texts laid together: Ty, Plain, EvTold, LGlob, DSpec.
-/
import Derived.Test.YtkghgdkkholieaaDoorZA8
import Derived.Test.YtkghgdkkholieaaDoorChecked
/-
  What the evaluator asks of the program's types.
-/


namespace Go.Proofs.YtkghgdkkholieaaDoor
theorem mixed : Tryd.prog.follows .mixedOrders = true := by kernel_rfl
set_option maxRecDepth 100000 in
theorem tys :
    szOf Tryd.prog 1 = some 1 ∧
    aggT Tryd.prog 1 = some false ∧
    zeroOf Tryd.prog 1 = some [.prim .nilFunc] ∧
    isStr Tryd.prog 1 = false ∧
    szOf Tryd.prog 2 = some 1 ∧
    aggT Tryd.prog 2 = some false ∧
    zeroOf Tryd.prog 2 = some [.prim (.int .i64 0)] ∧
    intOfT Tryd.prog 2 = some .i64 ∧
    isStr Tryd.prog 2 = false ∧
    szOf Tryd.prog 3 = some 1 ∧
    aggT Tryd.prog 3 = some false ∧
    zeroOf Tryd.prog 3 = some [.prim (.int .i64 0)] ∧
    intOfT Tryd.prog 3 = some .i64 ∧
    isStr Tryd.prog 3 = false ∧
    szOf Tryd.prog 4 = some 1 ∧
    aggT Tryd.prog 4 = some false ∧
    zeroOf Tryd.prog 4 = some [.prim (.bool false)] ∧
    isStr Tryd.prog 4 = false ∧
    isBool Tryd.prog 4 = true ∧
    szOf Tryd.prog 5 = some 1 ∧
    aggT Tryd.prog 5 = some false ∧
    zeroOf Tryd.prog 5 = some [.prim (.int .u8 0)] ∧
    intOfT Tryd.prog 5 = some .u8 ∧
    isStr Tryd.prog 5 = false ∧
    szOf Tryd.prog 9 = some 1 ∧
    aggT Tryd.prog 9 = some false ∧
    zeroOf Tryd.prog 9 = some [.prim (.string ⟨#[]⟩)] ∧
    isStr Tryd.prog 9 = true ∧
    szOf Tryd.prog 12 = some 1 ∧
    aggT Tryd.prog 12 = some false ∧
    zeroOf Tryd.prog 12 = some [.prim (.int .u64 0)] ∧
    intOfT Tryd.prog 12 = some .u64 ∧
    isStr Tryd.prog 12 = false ∧
    szOf Tryd.prog 20 = some 1 ∧
    aggT Tryd.prog 20 = some false ∧
    zeroOf Tryd.prog 20 = some [.prim .nilIface] ∧
    isStr Tryd.prog 20 = false ∧
    szOf Tryd.prog 21 = some 1 ∧
    aggT Tryd.prog 21 = some false ∧
    zeroOf Tryd.prog 21 = some [.prim (.int .i32 0)] ∧
    intOfT Tryd.prog 21 = some .i32 ∧
    isStr Tryd.prog 21 = false ∧
    szOf Tryd.prog 22 = some 1 ∧
    aggT Tryd.prog 22 = some false ∧
    zeroOf Tryd.prog 22 = some [.prim (.int .i64 0)] ∧
    intOfT Tryd.prog 22 = some .i64 ∧
    isStr Tryd.prog 22 = false ∧
    szOf Tryd.prog 23 = some 1 ∧
    aggT Tryd.prog 23 = some false ∧
    zeroOf Tryd.prog 23 = some [.frz [] .nilc] ∧
    elemOf Tryd.prog 23 = some 25 ∧
    apT Tryd.prog 23 = some 4 ∧
    isStr Tryd.prog 23 = false ∧
    szOf Tryd.prog 24 = some 4 ∧
    aggT Tryd.prog 24 = some true ∧
    zeroOf Tryd.prog 24 = some [.prim (.int .i64 0), .prim (.string ⟨#[]⟩), .prim (.int .i64 0), .frz [] .nilc] ∧
    isStr Tryd.prog 24 = false ∧
    fieldOf Tryd.prog 24 0 = some (0, 1, false) ∧
    fieldOf Tryd.prog 24 1 = some (1, 1, false) ∧
    fieldOf Tryd.prog 24 2 = some (2, 1, false) ∧
    fieldOf Tryd.prog 24 3 = some (3, 1, false) ∧
    fieldsOf Tryd.prog 24 = some [(0, 1), (1, 1), (2, 1), (3, 1)] ∧
    szOf Tryd.prog 25 = some 4 ∧
    aggT Tryd.prog 25 = some true ∧
    zeroOf Tryd.prog 25 = some [.prim (.int .i64 0), .prim (.string ⟨#[]⟩), .prim (.int .i64 0), .frz [] .nilc] ∧
    isStr Tryd.prog 25 = false ∧
    fieldOf Tryd.prog 25 0 = some (0, 1, false) ∧
    fieldOf Tryd.prog 25 1 = some (1, 1, false) ∧
    fieldOf Tryd.prog 25 2 = some (2, 1, false) ∧
    fieldOf Tryd.prog 25 3 = some (3, 1, false) ∧
    fieldsOf Tryd.prog 25 = some [(0, 1), (1, 1), (2, 1), (3, 1)] ∧
    szOf Tryd.prog 26 = some 1 ∧
    aggT Tryd.prog 26 = some false ∧
    zeroOf Tryd.prog 26 = some [.frz [] .nilc] ∧
    elemOf Tryd.prog 26 = some 41 ∧
    apT Tryd.prog 26 = some 2 ∧
    isStr Tryd.prog 26 = false ∧
    szOf Tryd.prog 27 = some 2 ∧
    aggT Tryd.prog 27 = some true ∧
    zeroOf Tryd.prog 27 = some [.frz [] .nilc, .prim (.int .i64 0)] ∧
    isStr Tryd.prog 27 = false ∧
    fieldOf Tryd.prog 27 0 = some (0, 1, false) ∧
    fieldOf Tryd.prog 27 1 = some (1, 1, false) ∧
    fieldsOf Tryd.prog 27 = some [(0, 1), (1, 1)] ∧
    szOf Tryd.prog 28 = some 2 ∧
    aggT Tryd.prog 28 = some true ∧
    zeroOf Tryd.prog 28 = some [.frz [] .nilc, .prim (.int .i64 0)] ∧
    isStr Tryd.prog 28 = false ∧
    fieldOf Tryd.prog 28 0 = some (0, 1, false) ∧
    fieldOf Tryd.prog 28 1 = some (1, 1, false) ∧
    fieldsOf Tryd.prog 28 = some [(0, 1), (1, 1)] ∧
    szOf Tryd.prog 29 = some 1 ∧
    aggT Tryd.prog 29 = some false ∧
    zeroOf Tryd.prog 29 = some [.prim .nilFunc] ∧
    isStr Tryd.prog 29 = false ∧
    szOf Tryd.prog 30 = some 1 ∧
    aggT Tryd.prog 30 = some false ∧
    zeroOf Tryd.prog 30 = some [.prim .nilFunc] ∧
    isStr Tryd.prog 30 = false ∧
    szOf Tryd.prog 31 = some 1 ∧
    aggT Tryd.prog 31 = some false ∧
    zeroOf Tryd.prog 31 = some [.prim .nilFunc] ∧
    isStr Tryd.prog 31 = false ∧
    szOf Tryd.prog 33 = some 1 ∧
    aggT Tryd.prog 33 = some false ∧
    zeroOf Tryd.prog 33 = some [.prim .nilFunc] ∧
    isStr Tryd.prog 33 = false ∧
    szOf Tryd.prog 34 = some 1 ∧
    aggT Tryd.prog 34 = some false ∧
    zeroOf Tryd.prog 34 = some [.prim .nilFunc] ∧
    isStr Tryd.prog 34 = false ∧
    szOf Tryd.prog 35 = some 1 ∧
    aggT Tryd.prog 35 = some false ∧
    zeroOf Tryd.prog 35 = some [.prim .nilFunc] ∧
    isStr Tryd.prog 35 = false ∧
    szOf Tryd.prog 36 = some 1 ∧
    aggT Tryd.prog 36 = some false ∧
    zeroOf Tryd.prog 36 = some [.prim .nilFunc] ∧
    isStr Tryd.prog 36 = false ∧
    szOf Tryd.prog 37 = some 1 ∧
    aggT Tryd.prog 37 = some false ∧
    zeroOf Tryd.prog 37 = some [.prim .nilFunc] ∧
    isStr Tryd.prog 37 = false ∧
    szOf Tryd.prog 38 = some 1 ∧
    aggT Tryd.prog 38 = some false ∧
    zeroOf Tryd.prog 38 = some [.prim (.int .i8 0)] ∧
    intOfT Tryd.prog 38 = some .i8 ∧
    isStr Tryd.prog 38 = false ∧
    szOf Tryd.prog 39 = some 3 ∧
    aggT Tryd.prog 39 = some true ∧
    zeroOf Tryd.prog 39 = some [.prim (.int .i8 0), .prim (.int .i8 0), .prim (.int .i8 0)] ∧
    arrOf Tryd.prog 39 = some (3, 1) ∧
    isStr Tryd.prog 39 = false ∧
    szOf Tryd.prog 40 = some 2 ∧
    aggT Tryd.prog 40 = some true ∧
    zeroOf Tryd.prog 40 = some [.prim (.string ⟨#[]⟩), .prim (.int .i64 0)] ∧
    isStr Tryd.prog 40 = false ∧
    fieldOf Tryd.prog 40 0 = some (0, 1, false) ∧
    fieldOf Tryd.prog 40 1 = some (1, 1, false) ∧
    fieldsOf Tryd.prog 40 = some [(0, 1), (1, 1)] ∧
    flatK Tryd.prog 40 = some [2, 1] ∧
    szOf Tryd.prog 41 = some 2 ∧
    aggT Tryd.prog 41 = some true ∧
    zeroOf Tryd.prog 41 = some [.prim (.string ⟨#[]⟩), .prim (.int .i64 0)] ∧
    isStr Tryd.prog 41 = false ∧
    fieldOf Tryd.prog 41 0 = some (0, 1, false) ∧
    fieldOf Tryd.prog 41 1 = some (1, 1, false) ∧
    fieldsOf Tryd.prog 41 = some [(0, 1), (1, 1)] ∧
    flatK Tryd.prog 41 = some [2, 1] ∧
    szOf Tryd.prog 42 = some 1 ∧
    aggT Tryd.prog 42 = some false ∧
    zeroOf Tryd.prog 42 = some [.frz [] .nilc] ∧
    elemOf Tryd.prog 42 = some 41 ∧
    apT Tryd.prog 42 = some 2 ∧
    isStr Tryd.prog 42 = false ∧
    szOf Tryd.prog 43 = some 1 ∧
    aggT Tryd.prog 43 = some false ∧
    zeroOf Tryd.prog 43 = some [.prim .nilFunc] ∧
    isStr Tryd.prog 43 = false ∧
    szOf Tryd.prog 44 = some 1 ∧
    aggT Tryd.prog 44 = some false ∧
    zeroOf Tryd.prog 44 = some [.prim .nilFunc] ∧
    isStr Tryd.prog 44 = false ∧
    szOf Tryd.prog 46 = some 1 ∧
    aggT Tryd.prog 46 = some false ∧
    zeroOf Tryd.prog 46 = some [.prim .nilFunc] ∧
    isStr Tryd.prog 46 = false ∧
    szOf Tryd.prog 47 = some 1 ∧
    aggT Tryd.prog 47 = some false ∧
    zeroOf Tryd.prog 47 = some [.prim (.int .i64 0)] ∧
    intOfT Tryd.prog 47 = some .i64 ∧
    isStr Tryd.prog 47 = false ∧
    szOf Tryd.prog 48 = some 1 ∧
    aggT Tryd.prog 48 = some false ∧
    zeroOf Tryd.prog 48 = some [.prim .nilFunc] ∧
    isStr Tryd.prog 48 = false ∧
    szOf Tryd.prog 49 = some 1 ∧
    aggT Tryd.prog 49 = some false ∧
    zeroOf Tryd.prog 49 = some [.prim .nilFunc] ∧
    isStr Tryd.prog 49 = false ∧
    szOf Tryd.prog 50 = some 3 ∧
    aggT Tryd.prog 50 = some true ∧
    zeroOf Tryd.prog 50 = some [.frz [] .nilc, .prim (.int .i64 0), .prim (.bool false)] ∧
    isStr Tryd.prog 50 = false ∧
    fieldOf Tryd.prog 50 0 = some (0, 2, true) ∧
    fieldOf Tryd.prog 50 1 = some (2, 1, false) ∧
    fieldsOf Tryd.prog 50 = some [(0, 2), (2, 1)] ∧
    szOf Tryd.prog 51 = some 3 ∧
    aggT Tryd.prog 51 = some true ∧
    zeroOf Tryd.prog 51 = some [.frz [] .nilc, .prim (.int .i64 0), .prim (.bool false)] ∧
    isStr Tryd.prog 51 = false ∧
    fieldOf Tryd.prog 51 0 = some (0, 2, true) ∧
    fieldOf Tryd.prog 51 1 = some (2, 1, false) ∧
    fieldsOf Tryd.prog 51 = some [(0, 2), (2, 1)] ∧
    szOf Tryd.prog 52 = some 1 ∧
    aggT Tryd.prog 52 = some false ∧
    zeroOf Tryd.prog 52 = some [.prim .nilFunc] ∧
    isStr Tryd.prog 52 = false ∧
    szOf Tryd.prog 53 = some 1 ∧
    aggT Tryd.prog 53 = some false ∧
    zeroOf Tryd.prog 53 = some [.prim .nilFunc] ∧
    isStr Tryd.prog 53 = false ∧
    szOf Tryd.prog 55 = some 1 ∧
    aggT Tryd.prog 55 = some false ∧
    zeroOf Tryd.prog 55 = some [.prim .nilFunc] ∧
    isStr Tryd.prog 55 = false ∧
    szOf Tryd.prog 56 = some 1 ∧
    aggT Tryd.prog 56 = some false ∧
    zeroOf Tryd.prog 56 = some [.prim .nilFunc] ∧
    isStr Tryd.prog 56 = false ∧
    szOf Tryd.prog 57 = some 1 ∧
    aggT Tryd.prog 57 = some false ∧
    zeroOf Tryd.prog 57 = some [.prim .nilFunc] ∧
    isStr Tryd.prog 57 = false ∧
    szOf Tryd.prog 58 = some 1 ∧
    aggT Tryd.prog 58 = some false ∧
    zeroOf Tryd.prog 58 = some [.prim .nilFunc] ∧
    isStr Tryd.prog 58 = false ∧
    szOf Tryd.prog 59 = some 1 ∧
    aggT Tryd.prog 59 = some false ∧
    zeroOf Tryd.prog 59 = some [.prim .nilFunc] ∧
    isStr Tryd.prog 59 = false ∧
    szOf Tryd.prog 60 = some 1 ∧
    aggT Tryd.prog 60 = some false ∧
    zeroOf Tryd.prog 60 = some [.prim .nilFunc] ∧
    isStr Tryd.prog 60 = false ∧
    szOf Tryd.prog 62 = some 1 ∧
    aggT Tryd.prog 62 = some false ∧
    zeroOf Tryd.prog 62 = some [.prim .nilFunc] ∧
    isStr Tryd.prog 62 = false ∧
    szOf Tryd.prog 63 = some 1 ∧
    aggT Tryd.prog 63 = some false ∧
    zeroOf Tryd.prog 63 = some [.prim .nilFunc] ∧
    isStr Tryd.prog 63 = false ∧
    szOf Tryd.prog 64 = some 1 ∧
    aggT Tryd.prog 64 = some false ∧
    zeroOf Tryd.prog 64 = some [.prim .nilFunc] ∧
    isStr Tryd.prog 64 = false ∧
    szOf Tryd.prog 65 = some 1 ∧
    aggT Tryd.prog 65 = some false ∧
    zeroOf Tryd.prog 65 = some [.prim .nilFunc] ∧
    isStr Tryd.prog 65 = false ∧
    szOf Tryd.prog 66 = some 1 ∧
    aggT Tryd.prog 66 = some false ∧
    zeroOf Tryd.prog 66 = some [.prim .nilFunc] ∧
    isStr Tryd.prog 66 = false ∧
    szOf Tryd.prog 67 = some 1 ∧
    aggT Tryd.prog 67 = some false ∧
    zeroOf Tryd.prog 67 = some [.prim .nilFunc] ∧
    isStr Tryd.prog 67 = false ∧
    szOf Tryd.prog 68 = some 1 ∧
    aggT Tryd.prog 68 = some false ∧
    zeroOf Tryd.prog 68 = some [.prim .nilFunc] ∧
    isStr Tryd.prog 68 = false ∧
    szOf Tryd.prog 69 = some 1 ∧
    aggT Tryd.prog 69 = some false ∧
    zeroOf Tryd.prog 69 = some [.prim .nilFunc] ∧
    isStr Tryd.prog 69 = false ∧
    szOf Tryd.prog 70 = some 1 ∧
    aggT Tryd.prog 70 = some false ∧
    zeroOf Tryd.prog 70 = some [.prim .nilFunc] ∧
    isStr Tryd.prog 70 = false ∧
    szOf Tryd.prog 71 = some 1 ∧
    aggT Tryd.prog 71 = some false ∧
    zeroOf Tryd.prog 71 = some [.prim .nilFunc] ∧
    isStr Tryd.prog 71 = false ∧
    szOf Tryd.prog 72 = some 1 ∧
    aggT Tryd.prog 72 = some false ∧
    zeroOf Tryd.prog 72 = some [.prim .nilFunc] ∧
    isStr Tryd.prog 72 = false ∧
    szOf Tryd.prog 73 = some 1 ∧
    aggT Tryd.prog 73 = some false ∧
    zeroOf Tryd.prog 73 = some [.prim .nilFunc] ∧
    isStr Tryd.prog 73 = false ∧
    szOf Tryd.prog 74 = some 1 ∧
    aggT Tryd.prog 74 = some false ∧
    zeroOf Tryd.prog 74 = some [.prim .nilFunc] ∧
    isStr Tryd.prog 74 = false ∧
    szOf Tryd.prog 75 = some 1 ∧
    aggT Tryd.prog 75 = some false ∧
    zeroOf Tryd.prog 75 = some [.prim .nilFunc] ∧
    isStr Tryd.prog 75 = false ∧
    szOf Tryd.prog 76 = some 1 ∧
    aggT Tryd.prog 76 = some false ∧
    zeroOf Tryd.prog 76 = some [.prim .nilFunc] ∧
    isStr Tryd.prog 76 = false ∧
    szOf Tryd.prog 78 = some 1 ∧
    aggT Tryd.prog 78 = some false ∧
    zeroOf Tryd.prog 78 = some [.prim .nilFunc] ∧
    isStr Tryd.prog 78 = false ∧
    szOf Tryd.prog 80 = some 1 ∧
    aggT Tryd.prog 80 = some false ∧
    zeroOf Tryd.prog 80 = some [.prim .nilFunc] ∧
    isStr Tryd.prog 80 = false ∧
    szOf Tryd.prog 81 = some 1 ∧
    aggT Tryd.prog 81 = some false ∧
    zeroOf Tryd.prog 81 = some [.prim .nilFunc] ∧
    isStr Tryd.prog 81 = false ∧
    szOf Tryd.prog 82 = some 1 ∧
    aggT Tryd.prog 82 = some false ∧
    zeroOf Tryd.prog 82 = some [.prim .nilFunc] ∧
    isStr Tryd.prog 82 = false ∧
    szOf Tryd.prog 84 = some 1 ∧
    aggT Tryd.prog 84 = some false ∧
    zeroOf Tryd.prog 84 = some [.prim .nilFunc] ∧
    isStr Tryd.prog 84 = false ∧
    szOf Tryd.prog 85 = some 1 ∧
    aggT Tryd.prog 85 = some false ∧
    zeroOf Tryd.prog 85 = some [.prim .nilFunc] ∧
    isStr Tryd.prog 85 = false ∧
    szOf Tryd.prog 86 = some 1 ∧
    aggT Tryd.prog 86 = some false ∧
    zeroOf Tryd.prog 86 = some [.prim .nilFunc] ∧
    isStr Tryd.prog 86 = false ∧
    szOf Tryd.prog 87 = some 1 ∧
    aggT Tryd.prog 87 = some false ∧
    zeroOf Tryd.prog 87 = some [.prim .nilFunc] ∧
    isStr Tryd.prog 87 = false ∧
    szOf Tryd.prog 89 = some 1 ∧
    aggT Tryd.prog 89 = some false ∧
    zeroOf Tryd.prog 89 = some [.prim .nilFunc] ∧
    isStr Tryd.prog 89 = false ∧
    szOf Tryd.prog 90 = some 1 ∧
    aggT Tryd.prog 90 = some false ∧
    zeroOf Tryd.prog 90 = some [.prim .nilFunc] ∧
    isStr Tryd.prog 90 = false ∧
    szOf Tryd.prog 91 = some 1 ∧
    aggT Tryd.prog 91 = some false ∧
    zeroOf Tryd.prog 91 = some [.prim .nilFunc] ∧
    isStr Tryd.prog 91 = false ∧
    szOf Tryd.prog 92 = some 1 ∧
    aggT Tryd.prog 92 = some false ∧
    zeroOf Tryd.prog 92 = some [.frz [] .nilc] ∧
    elemOf Tryd.prog 92 = some 9 ∧
    apT Tryd.prog 92 = some 1 ∧
    isStr Tryd.prog 92 = false ∧
    szOf Tryd.prog 93 = some 1 ∧
    aggT Tryd.prog 93 = some false ∧
    zeroOf Tryd.prog 93 = some [.prim .nilFunc] ∧
    isStr Tryd.prog 93 = false ∧
    szOf Tryd.prog 94 = some 42 ∧
    aggT Tryd.prog 94 = some true ∧
    arrOf Tryd.prog 94 = some (42, 1) ∧
    isStr Tryd.prog 94 = false ∧
    szOf Tryd.prog 95 = some 1 ∧
    aggT Tryd.prog 95 = some false ∧
    zeroOf Tryd.prog 95 = some [.prim .nilFunc] ∧
    isStr Tryd.prog 95 = false ∧
    szOf Tryd.prog 96 = some 1 ∧
    aggT Tryd.prog 96 = some false ∧
    zeroOf Tryd.prog 96 = some [.prim .nilFunc] ∧
    isStr Tryd.prog 96 = false ∧
    szOf Tryd.prog 97 = some 1 ∧
    aggT Tryd.prog 97 = some false ∧
    zeroOf Tryd.prog 97 = some [.prim .nilFunc] ∧
    isStr Tryd.prog 97 = false ∧
    szOf Tryd.prog 103 = some 1 ∧
    aggT Tryd.prog 103 = some false ∧
    zeroOf Tryd.prog 103 = some [.prim .nilFunc] ∧
    isStr Tryd.prog 103 = false ∧
    szOf Tryd.prog 104 = some 1 ∧
    aggT Tryd.prog 104 = some false ∧
    zeroOf Tryd.prog 104 = some [.prim (.int .u32 0)] ∧
    intOfT Tryd.prog 104 = some .u32 ∧
    isStr Tryd.prog 104 = false ∧
    szOf Tryd.prog 107 = some 1 ∧
    aggT Tryd.prog 107 = some false ∧
    zeroOf Tryd.prog 107 = some [.prim .nilFunc] ∧
    isStr Tryd.prog 107 = false ∧
    szOf Tryd.prog 108 = some 1 ∧
    aggT Tryd.prog 108 = some false ∧
    zeroOf Tryd.prog 108 = some [.prim (.pointer none)] ∧
    isStr Tryd.prog 108 = false :=
  ⟨by kernel_rfl, by kernel_rfl, by kernel_rfl, by kernel_rfl, by kernel_rfl, by kernel_rfl, by kernel_rfl, by kernel_rfl, by kernel_rfl, by kernel_rfl, by kernel_rfl, by kernel_rfl, by kernel_rfl, by kernel_rfl, by kernel_rfl, by kernel_rfl, by kernel_rfl, by kernel_rfl, by kernel_rfl, by kernel_rfl, by kernel_rfl, by kernel_rfl, by kernel_rfl, by kernel_rfl, by kernel_rfl, by kernel_rfl, by kernel_rfl, by kernel_rfl, by kernel_rfl, by kernel_rfl, by kernel_rfl, by kernel_rfl, by kernel_rfl, by kernel_rfl, by kernel_rfl, by kernel_rfl, by kernel_rfl, by kernel_rfl, by kernel_rfl, by kernel_rfl, by kernel_rfl, by kernel_rfl, by kernel_rfl, by kernel_rfl, by kernel_rfl, by kernel_rfl, by kernel_rfl, by kernel_rfl, by kernel_rfl, by kernel_rfl, by kernel_rfl, by kernel_rfl, by kernel_rfl, by kernel_rfl, by kernel_rfl, by kernel_rfl, by kernel_rfl, by kernel_rfl, by kernel_rfl, by kernel_rfl, by kernel_rfl, by kernel_rfl, by kernel_rfl, by kernel_rfl, by kernel_rfl, by kernel_rfl, by kernel_rfl, by kernel_rfl, by kernel_rfl, by kernel_rfl, by kernel_rfl, by kernel_rfl, by kernel_rfl, by kernel_rfl, by kernel_rfl, by kernel_rfl, by kernel_rfl, by kernel_rfl, by kernel_rfl, by kernel_rfl, by kernel_rfl, by kernel_rfl, by kernel_rfl, by kernel_rfl, by kernel_rfl, by kernel_rfl, by kernel_rfl, by kernel_rfl, by kernel_rfl, by kernel_rfl, by kernel_rfl, by kernel_rfl, by kernel_rfl, by kernel_rfl, by kernel_rfl, by kernel_rfl, by kernel_rfl, by kernel_rfl, by kernel_rfl, by kernel_rfl, by kernel_rfl, by kernel_rfl, by kernel_rfl, by kernel_rfl, by kernel_rfl, by kernel_rfl, by kernel_rfl, by kernel_rfl, by kernel_rfl, by kernel_rfl, by kernel_rfl, by kernel_rfl, by kernel_rfl, by kernel_rfl, by kernel_rfl, by kernel_rfl, by kernel_rfl, by kernel_rfl, by kernel_rfl, by kernel_rfl, by kernel_rfl, by kernel_rfl, by kernel_rfl, by kernel_rfl, by kernel_rfl, by kernel_rfl, by kernel_rfl, by kernel_rfl, by kernel_rfl, by kernel_rfl, by kernel_rfl, by kernel_rfl, by kernel_rfl, by kernel_rfl, by kernel_rfl, by kernel_rfl, by kernel_rfl, by kernel_rfl, by kernel_rfl, by kernel_rfl, by kernel_rfl, by kernel_rfl, by kernel_rfl, by kernel_rfl, by kernel_rfl, by kernel_rfl, by kernel_rfl, by kernel_rfl, by kernel_rfl, by kernel_rfl, by kernel_rfl, by kernel_rfl, by kernel_rfl, by kernel_rfl, by kernel_rfl, by kernel_rfl, by kernel_rfl, by kernel_rfl, by kernel_rfl, by kernel_rfl, by kernel_rfl, by kernel_rfl, by kernel_rfl, by kernel_rfl, by kernel_rfl, by kernel_rfl, by kernel_rfl, by kernel_rfl, by kernel_rfl, by kernel_rfl, by kernel_rfl, by kernel_rfl, by kernel_rfl, by kernel_rfl, by kernel_rfl, by kernel_rfl, by kernel_rfl, by kernel_rfl, by kernel_rfl, by kernel_rfl, by kernel_rfl, by kernel_rfl, by kernel_rfl, by kernel_rfl, by kernel_rfl, by kernel_rfl, by kernel_rfl, by kernel_rfl, by kernel_rfl, by kernel_rfl, by kernel_rfl, by kernel_rfl, by kernel_rfl, by kernel_rfl, by kernel_rfl, by kernel_rfl, by kernel_rfl, by kernel_rfl, by kernel_rfl, by kernel_rfl, by kernel_rfl, by kernel_rfl, by kernel_rfl, by kernel_rfl, by kernel_rfl, by kernel_rfl, by kernel_rfl, by kernel_rfl, by kernel_rfl, by kernel_rfl, by kernel_rfl, by kernel_rfl, by kernel_rfl, by kernel_rfl, by kernel_rfl, by kernel_rfl, by kernel_rfl, by kernel_rfl, by kernel_rfl, by kernel_rfl, by kernel_rfl, by kernel_rfl, by kernel_rfl, by kernel_rfl, by kernel_rfl, by kernel_rfl, by kernel_rfl, by kernel_rfl, by kernel_rfl, by kernel_rfl, by kernel_rfl, by kernel_rfl, by kernel_rfl, by kernel_rfl, by kernel_rfl, by kernel_rfl, by kernel_rfl, by kernel_rfl, by kernel_rfl, by kernel_rfl, by kernel_rfl, by kernel_rfl, by kernel_rfl, by kernel_rfl, by kernel_rfl, by kernel_rfl, by kernel_rfl, by kernel_rfl, by kernel_rfl, by kernel_rfl, by kernel_rfl, by kernel_rfl, by kernel_rfl, by kernel_rfl, by kernel_rfl, by kernel_rfl, by kernel_rfl, by kernel_rfl, by kernel_rfl, by kernel_rfl, by kernel_rfl, by kernel_rfl, by kernel_rfl, by kernel_rfl, by kernel_rfl, by kernel_rfl, by kernel_rfl, by kernel_rfl, by kernel_rfl, by kernel_rfl, by kernel_rfl, by kernel_rfl, by kernel_rfl, by kernel_rfl, by kernel_rfl, by kernel_rfl, by kernel_rfl, by kernel_rfl, by kernel_rfl, by kernel_rfl, by kernel_rfl, by kernel_rfl, by kernel_rfl, by kernel_rfl, by kernel_rfl, by kernel_rfl, by kernel_rfl, by kernel_rfl, by kernel_rfl, by kernel_rfl, by kernel_rfl, by kernel_rfl, by kernel_rfl, by kernel_rfl, by kernel_rfl, by kernel_rfl, by kernel_rfl, by kernel_rfl, by kernel_rfl, by kernel_rfl, by kernel_rfl, by kernel_rfl, by kernel_rfl, by kernel_rfl, by kernel_rfl, by kernel_rfl, by kernel_rfl, by kernel_rfl, by kernel_rfl, by kernel_rfl, by kernel_rfl, by kernel_rfl, by kernel_rfl, by kernel_rfl, by kernel_rfl, by kernel_rfl, by kernel_rfl, by kernel_rfl, by kernel_rfl, by kernel_rfl, by kernel_rfl, by kernel_rfl, by kernel_rfl, by kernel_rfl, by kernel_rfl, by kernel_rfl, by kernel_rfl, by kernel_rfl, by kernel_rfl, by kernel_rfl, by kernel_rfl, by kernel_rfl, by kernel_rfl, by kernel_rfl, by kernel_rfl, by kernel_rfl, by kernel_rfl, by kernel_rfl, by kernel_rfl, by kernel_rfl, by kernel_rfl, by kernel_rfl, by kernel_rfl, by kernel_rfl, by kernel_rfl, by kernel_rfl, by kernel_rfl, by kernel_rfl, by kernel_rfl, by kernel_rfl, by kernel_rfl, by kernel_rfl, by kernel_rfl, by kernel_rfl, by kernel_rfl, by kernel_rfl, by kernel_rfl, by kernel_rfl, by kernel_rfl, by kernel_rfl, by kernel_rfl, by kernel_rfl, by kernel_rfl, by kernel_rfl, by kernel_rfl, by kernel_rfl, by kernel_rfl, by kernel_rfl, by kernel_rfl, by kernel_rfl, by kernel_rfl, by kernel_rfl, by kernel_rfl⟩
end Go.Proofs.YtkghgdkkholieaaDoor
/-
  Plain functions and laws on integers: no program in sight.
-/
namespace Go.Proofs.YtkghgdkkholieaaDoor

/-- in bounds -/
def inB (n : Int) : Bool := decide (-1000000000000 ≤ n ∧ n ≤ 1000000000000)
theorem inB_true {n : Int} : inB n = true ↔ -1000000000000 ≤ n ∧ n ≤ 1000000000000 := by simp [inB]
theorem inB_false {n : Int} : inB n = false ↔ ¬ (-1000000000000 ≤ n ∧ n ≤ 1000000000000) := by simp [inB]

/-- the value of a checked operation -/
def chk (ok : Bool) (n : Int) : Int × Bool := if ok && inB n then (n, true) else (0, false)
def addS (a b : Int) : Int × Bool := chk (inB a && inB b) (a + b)
def subS (a b : Int) : Int × Bool := chk (inB a && inB b) (a - b)
def mulS (a b : Int) : Int × Bool := chk (inB a && inB b) (a * b)
/-- the quotient rounded down, of a number by one that is not 0 -/
def divS (a b : Int) : Int × Bool := if inB a && inB b && !(b == 0) then (a.fdiv b, true) else (0, false)
def absS (n : Int) : Int := if n = -9223372036854775808 then 1000000000000 else if 0 ≤ n then n else -n
def gcdS (a b : Int) : Int := (Int.gcd (absS a) (absS b) : Int)

theorem absS_in {n : Int} (h : inB n = true) : absS n = n.natAbs := by
  rw [inB_true] at h; unfold absS; split
  · omega
  · split <;> omega

theorem mul_test (a b : Int) (h : a ≠ 0) :
    (decide (1000000000000 / (a.natAbs : Int) < (b.natAbs : Int)) = false ∧ -1000000000000 ≤ a * b ∧ a * b ≤ 1000000000000 ∧ inB (a * b) = true) ∨
    (decide (1000000000000 / (a.natAbs : Int) < (b.natAbs : Int)) = true ∧ inB (a * b) = false) := by
  have hp : 0 < (a.natAbs : Int) := by omega
  have hab : ((a * b).natAbs : Int) = (b.natAbs : Int) * a.natAbs := by rw [Int.natAbs_mul]; push_cast; rw [Int.mul_comm]
  by_cases hc : 1000000000000 / (a.natAbs : Int) < (b.natAbs : Int)
  · right
    refine ⟨by simpa using hc, ?_⟩
    rw [Int.ediv_lt_iff_lt_mul hp] at hc
    rw [inB_false]
    omega
  · left
    have hd := hc
    rw [Int.ediv_lt_iff_lt_mul hp] at hc
    rw [inB_true]
    refine ⟨by simpa using hd, ?_⟩
    omega

/-- at most 40 coefficients with names of at most 500 bytes -/
def smallS (cs : List (ByteArray × Int)) : Bool := decide (cs.length ≤ 40 ∧ ∀ c ∈ cs, ¬ 500 < c.1.size)
theorem smallS_long {cs : List (ByteArray × Int)} {len : Nat} (hl : cs.length = len) (h : 40 < len) : false = smallS cs := by
  symm; unfold smallS; rw [decide_eq_false_iff_not]; omega
theorem smallS_name {cs : List (ByteArray × Int)} {n : Nat} {c : ByteArray × Int} (hn : cs[n]? = some c) (h : 500 < c.1.size) : false = smallS cs := by
  symm; unfold smallS; rw [decide_eq_false_iff_not]; intro hh
  exact hh.2 c (List.mem_of_getElem? hn) h
theorem smallS_true {cs : List (ByteArray × Int)} {len n : Nat} (hl : cs.length = len) (hn : len ≤ n) (h4 : n ≤ 40) (h : ∀ j, j < n → ∀ c, cs[j]? = some c → ¬ 500 < c.1.size) : true = smallS cs := by
  symm; unfold smallS; rw [decide_eq_true_iff]
  refine ⟨by omega, fun c hc => ?_⟩
  obtain ⟨j, hj⟩ := List.getElem?_of_mem hc
  exact h j (by have := (List.getElem?_eq_some_iff.1 hj).1; omega) c hj
theorem smallS_iff {cs : List (ByteArray × Int)} : smallS cs = true ↔ cs.length ≤ 40 ∧ ∀ c ∈ cs, ¬ 500 < c.1.size := by simp [smallS]

def sameS (x : List (ByteArray × Int)) (k : Int) (y : List (ByteArray × Int)) (l : Int) : Bool := decide (x = y ∧ k = l)
theorem sameS_len {x y : List (ByteArray × Int)} {k l : Int} (h : x.length ≠ y.length) : false = sameS x k y l := by
  symm; unfold sameS; rw [decide_eq_false_iff_not]; rintro ⟨rfl, _⟩; exact h rfl
theorem sameS_const {x y : List (ByteArray × Int)} {k l : Int} (h : k ≠ l) : false = sameS x k y l := by
  symm; unfold sameS; rw [decide_eq_false_iff_not]; rintro ⟨_, e⟩; exact h e
theorem sameS_at {x y : List (ByteArray × Int)} {k l : Int} {n : Nat} {c d : ByteArray × Int} (h : x[n]? = some c) (h' : y[n]? = some d) (hne : c ≠ d) : false = sameS x k y l := by
  symm; unfold sameS; rw [decide_eq_false_iff_not]; rintro ⟨rfl, _⟩; rw [h] at h'; exact hne (by simpa using h')
theorem sameS_true {x y : List (ByteArray × Int)} {k : Int} {len n : Nat} (hx : x.length = len) (hy : y.length = len) (hn : len ≤ n) (h : ∀ j, j < n → x[j]? = y[j]?) : true = sameS x k y k := by
  symm; unfold sameS; rw [decide_eq_true_iff]; refine ⟨List.ext_getElem? fun j => ?_, rfl⟩
  rcases Nat.lt_or_ge j n with hj | hj
  · exact h j hj
  · rw [List.getElem?_eq_none (by omega), List.getElem?_eq_none (by omega)]
theorem sameS_refl (x : List (ByteArray × Int)) (k : Int) : sameS x k x k = true := by simp [sameS]

/-- the sum of two lists of coefficients by increasing names; less compares names -/
def addF (less : ByteArray → ByteArray → Bool) : Nat → List (ByteArray × Int) → List (ByteArray × Int) → List (ByteArray × Int)
  | 0, _, _ => []
  | _ + 1, [], [] => []
  | n + 1, x :: xs, [] => x :: addF less n xs []
  | n + 1, [], y :: ys => y :: addF less n [] ys
  | n + 1, x :: xs, y :: ys =>
    if less x.1 y.1 then x :: addF less n xs (y :: ys)
    else if less y.1 x.1 then y :: addF less n (x :: xs) ys
    else if x.2 + y.2 = 0 then addF less n xs ys else (x.1, x.2 + y.2) :: addF less n xs ys
theorem addF_more (less : ByteArray → ByteArray → Bool) : ∀ (n m : Nat) (xs ys : List (ByteArray × Int)), xs.length + ys.length ≤ n → xs.length + ys.length ≤ m → addF less n xs ys = addF less m xs ys
  | 0, m, xs, ys, h, _ => by
    have h1 : xs = [] := List.eq_nil_of_length_eq_zero (by omega)
    have h2 : ys = [] := List.eq_nil_of_length_eq_zero (by omega)
    subst h1 h2
    cases m <;> rfl
  | n + 1, 0, xs, ys, _, h => by
    have h1 : xs = [] := List.eq_nil_of_length_eq_zero (by omega)
    have h2 : ys = [] := List.eq_nil_of_length_eq_zero (by omega)
    subst h1 h2
    rfl
  | n + 1, m + 1, [], [], _, _ => rfl
  | n + 1, m + 1, x :: xs, [], h, h' => by simp only [addF]; rw [addF_more less n m xs [] (by simp at h ⊢; omega) (by simp at h' ⊢; omega)]
  | n + 1, m + 1, [], y :: ys, h, h' => by simp only [addF]; rw [addF_more less n m [] ys (by simp at h ⊢; omega) (by simp at h' ⊢; omega)]
  | n + 1, m + 1, x :: xs, y :: ys, h, h' => by
    simp only [addF]
    rw [addF_more less n m xs (y :: ys) (by simp at h ⊢; omega) (by simp at h' ⊢; omega), addF_more less n m (x :: xs) ys (by simp at h ⊢; omega) (by simp at h' ⊢; omega), addF_more less n m xs ys (by simp at h ⊢; omega) (by simp at h' ⊢; omega)]
def addC (less : ByteArray → ByteArray → Bool) (xs ys : List (ByteArray × Int)) : List (ByteArray × Int) := addF less (xs.length + ys.length) xs ys
section
variable {less : ByteArray → ByteArray → Bool} {x y : ByteArray × Int} {xs ys : List (ByteArray × Int)}
theorem addC_nil : addC less [] [] = [] := rfl
theorem addC_left0 : addC less (x :: xs) [] = x :: addC less xs [] := rfl
theorem addC_right0 : addC less [] (y :: ys) = y :: addC less [] ys := by
  unfold addC
  rw [addF_more less (([] : List (ByteArray × Int)).length + (y :: ys).length) (ys.length + 1) _ _ (by simp) (by simp)]
  simp only [addF]
  rw [addF_more less ys.length (([] : List (ByteArray × Int)).length + ys.length) _ _ (by simp) (by simp)]
theorem addC_left (h : less x.1 y.1 = true) : addC less (x :: xs) (y :: ys) = x :: addC less xs (y :: ys) := by
  unfold addC
  rw [addF_more less ((x :: xs).length + (y :: ys).length) (xs.length + (y :: ys).length + 1) _ _ (by simp) (by simp only [List.length_cons]; omega)]
  simp only [addF, h, if_true]
theorem addC_right (h : less x.1 y.1 = false) (h' : less y.1 x.1 = true) : addC less (x :: xs) (y :: ys) = y :: addC less (x :: xs) ys := by
  unfold addC
  rw [addF_more less ((x :: xs).length + (y :: ys).length) ((x :: xs).length + ys.length + 1) _ _ (by simp) (by simp only [List.length_cons]; omega)]
  simp [addF, h, h']
theorem addC_both (h : less x.1 y.1 = false) (h' : less y.1 x.1 = false) : addC less (x :: xs) (y :: ys) = if x.2 + y.2 = 0 then addC less xs ys else (x.1, x.2 + y.2) :: addC less xs ys := by
  have e := addF_more less (xs.length + ys.length + 1) (xs.length + ys.length) xs ys (by omega) (by omega)
  unfold addC
  rw [addF_more less ((x :: xs).length + (y :: ys).length) (xs.length + ys.length + 1 + 1) _ _ (by simp) (by simp only [List.length_cons]; omega)]
  simp only [addF, h, h', e]
  simp
end
theorem drop_cons {α : Type} {l : List α} {n : Nat} {x : α} (h : l[n]? = some x) : l.drop n = x :: l.drop (n + 1) := by
  obtain ⟨hlt, hx⟩ := List.getElem?_eq_some_iff.1 h
  rw [List.drop_eq_getElem_cons hlt, hx]
theorem drop_nil {α : Type} {l : List α} {n : Nat} (h : l.length ≤ n) : l.drop n = [] := List.drop_eq_nil_of_le h

end Go.Proofs.YtkghgdkkholieaaDoor
/-
  Functions told from outside: what holds while nothing is known of them holds when they are told.
-/

namespace Go.Proofs.YtkghgdkkholieaaDoor
open Go
variable {P : Program}
/-- the same functions are told from outside, but nothing is told of them yet -/
@[reducible] def Ext.quiet (E : Ext P) : Ext P := { on := E.on, mv := E.mv, call := fun _ _ _ _ _ => none }
theorem evC_quiet [Globs] (E : Ext P) {call : CallA} {ok : St → List Oper → Bool} {n : Nat} : ∀ (c : Code) (st : St), @evC _ P (Ext.quiet E) call ok n c st = @evC _ P E call ok n c st
  | .skip, _ => by simp only [evC]
  | .region _ ops draw, st => by simp only [evC]; rfl
  | .seq a b, st => by
    simp only [evC, evC_quiet E a]
    split <;> first | exact evC_quiet E b _ | rfl
  | .cond c a b, st => by simp only [evC, evC_quiet E a, evC_quiet E b]
  | .block _ c, st => by simp only [evC, evC_quiet E c]
  | .loop c, st => by
    simp only [evC]
    congr 1
    funext s
    exact evC_quiet E c s
  | .exit _, _ => by simp only [evC]
  | .ret, _ => by simp only [evC]
  | .scope c, st => by simp only [evC]; exact evC_quiet E c st
  | .label _, _ => by simp only [evC]
  | .goto _, _ => by simp only [evC]
  | .rangeFunc _ _ _ _, _ => by simp only [evC]
  | .refuse _, _ => by simp only [evC]
theorem evF_quiet [Globs] (E : Ext P) {ok : St → List Oper → Bool} : ∀ k, CLe (@evF _ P (Ext.quiet E) ok k) (@evF _ P E ok k)
  | 0 => by intro f args S tk n r he; simp [evF] at he
  | k + 1 => by
    have ih := evF_quiet E (ok := ok) k
    intro f args S tk n r he
    simp only [evF] at he ⊢
    split at he
    · simp at he
    rename_i hon
    rw [if_neg (show ¬ @Ext.on P E f = true from hon)]
    split at he
    · rename_i fn hf
      split at he
      · rename_i c hb
        split at he
        · simp at he
        · rename_i hname
          rw [if_neg hname]
          have out : ∀ {st0 : St} {r0 : AV × St}, outA P fn (@evC _ P (Ext.quiet E) (@evF _ P (Ext.quiet E) ok k) ok k c st0) = some r0 → outA P fn (@evC _ P E (@evF _ P E ok k) ok k c st0) = some r0 := by
            intro st0 r0 h
            rw [evC_quiet E] at h
            exact outA_mono (fun z hz => evC_mono ih (Nat.le_refl _) c _ z hz) h
          split at he
          · rename_i hmv
            rw [if_pos (show @Ext.mv P E f = true from hmv)]
            split at he
            · rename_i r' s1 ho
              rw [out ho]
              exact he
            · simp at he
          rename_i hmv
          rw [if_neg (show ¬ @Ext.mv P E f = true from hmv)]
          split at he
          · rename_i hp
            rw [if_pos hp]
            have one : ∀ {xs0 : List AV} {r0 : AV}, @runP _ P (Ext.quiet E) ok (@evF _ P (Ext.quiet E) ok k) k fn c xs0 = some r0 → @runP _ P E ok (@evF _ P E ok k) k fn c xs0 = some r0 := by
              intro xs0 r0 hrun
              unfold runP at hrun ⊢
              split at hrun
              · rename_i r' s1 ho
                rw [out ho]
                exact hrun
              · simp at hrun
            split at he
            · rename_i r' ho
              have : (if nilCmp c = true then runN (@runP _ P E ok (@evF _ P E ok k) k fn c) (args.map w2) else @runP _ P E ok (@evF _ P E ok k) k fn c (args.map w2)) = some r' := by
                split at ho
                · rename_i hn
                  rw [if_pos hn]
                  unfold runN at ho ⊢
                  split at ho
                  · split at ho
                    · rename_i q1 q2
                      rw [one q1, one q2]; exact ho
                    · simp at ho
                  · exact one ho
                · rename_i hn
                  rw [if_neg hn]
                  exact one ho
              rw [this]; exact he
            · simp at he
          · rename_i hp
            rw [if_neg hp]
            split at he
            · rename_i r' s1 ho
              rw [out ho]
              exact he
            · simp at he
      · simp at he
    · simp at he
theorem told [Globs] {E : Ext P} {f : FuncId} {args : List AV} {S : List Ent} {tk : List Nat} {n : Nat} {r : AV × List Ent × List Nat × Nat} (h : @cL _ P (Ext.quiet E) f args S tk n = some r) : @cL _ P E f args S tk n = some r := by
  obtain ⟨k, hk⟩ := (@cL_iff P _ (Ext.quiet E) _ _ _ _ _ _).1 h
  exact (@cL_iff P _ E _ _ _ _ _ _).2 ⟨k, evF_quiet E k _ _ _ _ _ _ hk⟩
theorem quiet_ok [Globs] (E : Ext P) : @ExtOk _ P (Ext.quiet E) := by
  letI := Ext.quiet E
  refine ⟨fun f args S tk n r S' tk' n' h => ?_, fun M f args S tk n r S' tk' n' h => ?_⟩
  · unfold extC at h; split at h <;> simp at h
  · unfold callP at h; split at h
    · unfold extC at h; split at h <;> simp at h
    · simp at h
end Go.Proofs.YtkghgdkkholieaaDoor
/-
  The one table that is read; what is told from outside: the keywords, the check of predicates.
-/



namespace Go.Proofs.YtkghgdkkholieaaDoor
open Go
def kwL : List ByteArray := [
  ⟨#[97, 110, 100]⟩,
  ⟨#[97, 115, 115, 117, 109, 101]⟩,
  ⟨#[98, 111, 111, 108]⟩,
  ⟨#[98, 111, 117, 110, 100]⟩,
  ⟨#[99, 97, 115, 101]⟩,
  ⟨#[99, 101, 108, 108]⟩,
  ⟨#[99, 108, 97, 115, 115]⟩,
  ⟨#[100, 97, 116, 97]⟩,
  ⟨#[100, 101, 102]⟩,
  ⟨#[100, 105, 118]⟩,
  ⟨#[101, 108, 115, 101]⟩,
  ⟨#[101, 110, 100]⟩,
  ⟨#[102, 97, 108, 115, 101]⟩,
  ⟨#[102, 111, 114, 97, 108, 108]⟩,
  ⟨#[102, 117, 110]⟩,
  ⟨#[103, 101, 116]⟩,
  ⟨#[105, 102]⟩,
  ⟨#[105, 110]⟩,
  ⟨#[105, 110, 115, 116]⟩,
  ⟨#[105, 110, 116]⟩,
  ⟨#[105, 110, 118, 97, 114, 105, 97, 110, 116]⟩,
  ⟨#[108, 101, 116]⟩,
  ⟨#[109, 97, 116, 99, 104]⟩,
  ⟨#[109, 101, 97, 115, 117, 114, 101]⟩,
  ⟨#[109, 101, 116, 114, 105, 99]⟩,
  ⟨#[109, 111, 100]⟩,
  ⟨#[109, 117]⟩,
  ⟨#[110, 101, 119]⟩,
  ⟨#[110, 111, 116]⟩,
  ⟨#[111, 102]⟩,
  ⟨#[111, 114]⟩,
  ⟨#[113, 117, 97, 108]⟩,
  ⟨#[114, 101, 102, 108, 101, 99, 116]⟩,
  ⟨#[115, 101, 116]⟩,
  ⟨#[116, 104, 101, 110]⟩,
  ⟨#[116, 114, 117, 101]⟩,
  ⟨#[117, 115, 101]⟩,
  ⟨#[118]⟩,
  ⟨#[118, 97, 108]⟩,
  ⟨#[116, 97, 103]⟩,
  ⟨#[119, 104, 101, 114, 101]⟩,
  ⟨#[119, 105, 116, 104]⟩]
def kwF (s : ByteArray) : Bool := kwL.any fun k => sEq k s
/-- predicates as trees: the kind, the name, the number, the kids -/
inductive PT where
  | node (op : Int) (name : ByteArray) (n : Int) (kids : List PT)
mutual
def predC : PT → List AV
  | .node o s n ks => [.prim (.int .i64 o), .prim (.string s), .prim (.int .i64 n), .frz (kidsC ks) .unk]
def kidsC : List PT → List (List AV)
  | [] => []
  | k :: ks => predC k :: kidsC ks
end
mutual
theorem predC_inj : ∀ {p q : PT}, predC p = predC q → p = q
  | .node o s n ks, .node o' s' n' ks', h => by
    simp only [predC, List.cons.injEq, AV.prim.injEq, Value.int.injEq, Value.string.injEq, AV.frz.injEq, and_true, true_and] at h
    obtain ⟨rfl, rfl, rfl, h⟩ := h
    rw [kidsC_inj h]
theorem kidsC_inj : ∀ {ks ls : List PT}, kidsC ks = kidsC ls → ks = ls
  | [], [], _ => rfl
  | [], _ :: _, h => by simp [kidsC] at h
  | _ :: _, [], h => by simp [kidsC] at h
  | k :: ks, l :: ls, h => by
    simp only [kidsC, List.cons.injEq] at h
    rw [predC_inj h.1, kidsC_inj h.2]
end
theorem kidsC_map : ∀ ks : List PT, kidsC ks = ks.map predC
  | [] => rfl
  | k :: ks => by rw [kidsC, List.map_cons, kidsC_map ks]
theorem predC_len : ∀ p : PT, (predC p).length = 4
  | .node _ _ _ _ => rfl
def PT.op : PT → Int | .node o _ _ _ => o
def PT.name : PT → ByteArray | .node _ s _ _ => s
def PT.n : PT → Int | .node _ _ n _ => n
def PT.kids : PT → List PT | .node _ _ _ ks => ks
mutual
/-- the number of nodes, of levels -/
def nodesP : PT → Nat
  | .node _ _ _ ks => 1 + nodesL ks
def nodesL : List PT → Nat
  | [] => 0
  | k :: ks => nodesP k + nodesL ks
end
mutual
def depthP : PT → Nat
  | .node _ _ _ ks => depthL ks + 1
def depthL : List PT → Nat
  | [] => 0
  | k :: ks => max (depthP k) (depthL ks)
end
end Go.Proofs.YtkghgdkkholieaaDoor
/-
  Core names, and the first error of a predicate, plainly; what is told from outside.
-/

namespace Go.Proofs.YtkghgdkkholieaaDoor
open Go
def smallB (b : UInt8) : Bool := decide (97 ≤ b.toNat) && decide (b.toNat ≤ 122)
def capB (b : UInt8) : Bool := decide (65 ≤ b.toNat) && decide (b.toNat ≤ 90)
def digB (b : UInt8) : Bool := decide (48 ≤ b.toNat) && decide (b.toNat ≤ 57)
def lowB (b : UInt8) : Bool := smallB b || digB b || decide (b.toNat = 95)
def alnB (b : UInt8) : Bool := smallB b || capB b || digB b
def bsL (s : ByteArray) : List UInt8 := s.data.toList
def sizedF (s : ByteArray) : Bool := decide (1 ≤ s.size) && decide (s.size ≤ 24)
def headB (f : UInt8 → Bool) : List UInt8 → Bool
  | [] => false
  | b :: _ => f b
def nameF (s : ByteArray) : Bool := sizedF s && headB smallB (bsL s) && !kwF s && (bsL s).all lowB
def bInt : ByteArray := ⟨#[73, 110, 116]⟩
def bBool : ByteArray := ⟨#[66, 111, 111, 108]⟩
def bCell : ByteArray := ⟨#[67, 101, 108, 108]⟩
def bFun : ByteArray := ⟨#[70, 117, 110]⟩
def titleF (s : ByteArray) : Bool := sizedF s && headB capB (bsL s) && (bsL s).all alnB && !(sEq s bInt || sEq s bBool || sEq s bCell || sEq s bFun)
def wordF : List UInt8 → Bool
  | [] => true
  | b :: r => smallB b && r.all lowB
def partF (s : ByteArray) : Bool := sizedF s && ((bsL s).all alnB || wordF (bsL s))
def segsL : List UInt8 → List (List UInt8)
  | [] => [[]]
  | b :: r => if b.toNat = 46 then [] :: segsL r else match segsL r with
    | f :: fs => (b :: f) :: fs
    | [] => [[b]]
def ofL (l : List UInt8) : ByteArray := ⟨l.toArray⟩
def segsF (s : ByteArray) : List ByteArray := (segsL (bsL s)).map ofL
def bV : ByteArray := ⟨#[118]⟩
def bTag : ByteArray := ⟨#[116, 97, 103]⟩
def bVal : ByteArray := ⟨#[118, 97, 108]⟩
def coreL : List ByteArray → Bool
  | [] => false
  | f :: fs => (nameF f || titleF f || (sEq f bV && !fs.isEmpty)) && fs.all partF
def coreF (s : ByteArray) : Bool := decide (s.size ≤ 120) && coreL (segsF s)
/- predicates -/
def isNamed (o : Int) : Bool := decide (o = 3) || decide (o = 4) || decide (o = 5)
def kidsOk (o : Int) (k : Nat) : Bool :=
  if o = 1 ∨ o = 2 ∨ o = 3 then decide (k = 0) else if o = 4 ∨ o = 5 then decide (1 ≤ k) && decide (k ≤ 24) else if o = 9 ∨ o = 14 then decide (k = 1) else decide (k = 2)
def calledF (o : Int) (s : ByteArray) : Bool :=
  if o = 3 then sEq s bV || coreF s else if o = 4 then sEq s bTag || sEq s bVal || coreF s else if o = 5 then coreF s else true
/-- the first error of a node by itself -/
def nodeP : PT → Int
  | .node o s n ks =>
    if o < 1 ∨ 18 < o ∨ (isNamed o = false ∧ s.size ≠ 0) ∨ (o ≠ 1 ∧ o ≠ 2 ∧ n ≠ 0) ∨ kidsOk o ks.length = false then 1
    else if (o = 1 ∧ inB n = false) ∨ (o = 2 ∧ n ≠ 0 ∧ n ≠ 1) then 2
    else if calledF o s = false then 3
    else if o = 8 ∧ (match ks with | [] => true | k :: _ => k.op != 1) = true then 6
    else 0
mutual
/-- the first error, each node before its kids -/
def formP : PT → Int
  | .node o s n ks => if nodeP (.node o s n ks) ≠ 0 then nodeP (.node o s n ks) else formL ks
def formL : List PT → Int
  | [] => 0
  | k :: ks => if formP k ≠ 0 then formP k else formL ks
end
mutual
/-- the number of nodes, of levels, as 64 bits hold them -/
def nodesW : PT → Int
  | .node _ _ _ ks => nodesV 1 ks
def nodesV : Int → List PT → Int
  | n, [] => n
  | n, k :: ks => nodesV (IntKind.i64.wrap (n + nodesW k)) ks
end
mutual
def depthW : PT → Int
  | .node _ _ _ ks => IntKind.i64.wrap (depthV 0 ks + 1)
def depthV : Int → List PT → Int
  | n, [] => n
  | n, k :: ks => depthV (if depthW k > n then depthW k else n) ks
end
mutual
/-- lists of kids are no longer than a slice can be -/
def kidsMax : PT → Prop
  | .node _ _ _ ks => ks.length ≤ 9223372036854775807 ∧ kidsMaxL ks
def kidsMaxL : List PT → Prop
  | [] => True
  | k :: ks => kidsMax k ∧ kidsMaxL ks
end
theorem kidsMax_mem : ∀ {ks : List PT} {q : PT}, kidsMaxL ks → q ∈ ks → kidsMax q
  | k :: ks, q, h, hq => by
    simp only [kidsMaxL] at h
    rcases List.mem_cons.1 hq with rfl | hq
    · exact h.1
    · exact kidsMax_mem h.2 hq
def checkP (p : PT) : Int := if 400 < nodesW p then 7 else if 40 < depthW p then 8 else formP p
mutual
/-- all nodes, each before its kids -/
def preP : PT → List PT
  | .node o s n ks => .node o s n ks :: preL ks
def preL : List PT → List PT
  | [] => []
  | k :: ks => preP k ++ preL ks
end
/-- the first error in a list of nodes -/
def firstE : List PT → Int
  | [] => 0
  | p :: r => if nodeP p ≠ 0 then nodeP p else firstE r
theorem firstE_append : ∀ (a b : List PT), firstE (a ++ b) = if firstE a ≠ 0 then firstE a else firstE b
  | [], b => by simp [firstE]
  | p :: a, b => by
    simp only [List.cons_append, firstE, firstE_append a b]
    split
    · rename_i h; simp [h]
    · rfl
mutual
theorem form_first : ∀ p : PT, formP p = firstE (preP p)
  | .node o s n ks => by
    simp only [formP, preP, firstE, form_firstL ks]
theorem form_firstL : ∀ ks : List PT, formL ks = firstE (preL ks)
  | [] => rfl
  | k :: ks => by simp only [formL, preL, firstE_append, form_first k, form_firstL ks]
end
instance : Globs := ⟨[(0, (kwL.map Value.string).toArray)], fun _ => false, false⟩
end Go.Proofs.YtkghgdkkholieaaDoor
