/-
  Texts laid together: Ty, BNum, BGlob, BExt, B1, FName.
-/
import Derived.Test.YtmgbmbganlndkaaZFScales8
import Derived.Test.YtmgbmbganlndkaaChecked
import Derived.IntWalk
/-
  What the evaluator asks of the program's types.
-/


namespace Go.Proofs.Ytmgbmbganlndkaa
theorem mixed : Try.prog.follows .mixedOrders = true := by kernel_rfl
set_option maxRecDepth 100000 in
theorem tys :
    szOf Try.prog 1 = some 1 ∧
    aggT Try.prog 1 = some false ∧
    zeroOf Try.prog 1 = some [.prim .nilFunc] ∧
    isStr Try.prog 1 = false ∧
    szOf Try.prog 2 = some 1 ∧
    aggT Try.prog 2 = some false ∧
    zeroOf Try.prog 2 = some [.prim (.int .i64 0)] ∧
    intOfT Try.prog 2 = some .i64 ∧
    isStr Try.prog 2 = false ∧
    szOf Try.prog 3 = some 1 ∧
    aggT Try.prog 3 = some false ∧
    zeroOf Try.prog 3 = some [.prim (.int .i64 0)] ∧
    intOfT Try.prog 3 = some .i64 ∧
    isStr Try.prog 3 = false ∧
    szOf Try.prog 4 = some 1 ∧
    aggT Try.prog 4 = some false ∧
    zeroOf Try.prog 4 = some [.prim (.bool false)] ∧
    isStr Try.prog 4 = false ∧
    isBool Try.prog 4 = true ∧
    szOf Try.prog 5 = some 1 ∧
    aggT Try.prog 5 = some false ∧
    zeroOf Try.prog 5 = some [.prim (.int .u8 0)] ∧
    intOfT Try.prog 5 = some .u8 ∧
    isStr Try.prog 5 = false ∧
    szOf Try.prog 9 = some 1 ∧
    aggT Try.prog 9 = some false ∧
    zeroOf Try.prog 9 = some [.prim (.string ⟨#[]⟩)] ∧
    isStr Try.prog 9 = true ∧
    szOf Try.prog 12 = some 1 ∧
    aggT Try.prog 12 = some false ∧
    zeroOf Try.prog 12 = some [.prim (.int .u64 0)] ∧
    intOfT Try.prog 12 = some .u64 ∧
    isStr Try.prog 12 = false ∧
    szOf Try.prog 20 = some 1 ∧
    aggT Try.prog 20 = some false ∧
    zeroOf Try.prog 20 = some [.prim .nilIface] ∧
    isStr Try.prog 20 = false ∧
    szOf Try.prog 21 = some 1 ∧
    aggT Try.prog 21 = some false ∧
    zeroOf Try.prog 21 = some [.prim (.int .i32 0)] ∧
    intOfT Try.prog 21 = some .i32 ∧
    isStr Try.prog 21 = false ∧
    szOf Try.prog 22 = some 1 ∧
    aggT Try.prog 22 = some false ∧
    zeroOf Try.prog 22 = some [.frz [] .nilc] ∧
    elemOf Try.prog 22 = some 43 ∧
    apT Try.prog 22 = some 3 ∧
    isStr Try.prog 22 = false ∧
    szOf Try.prog 23 = some 1 ∧
    aggT Try.prog 23 = some false ∧
    zeroOf Try.prog 23 = some [.frz [] .nilc] ∧
    elemOf Try.prog 23 = some 28 ∧
    apT Try.prog 23 = some 2 ∧
    isStr Try.prog 23 = false ∧
    szOf Try.prog 24 = some 1 ∧
    aggT Try.prog 24 = some false ∧
    zeroOf Try.prog 24 = some [.prim .nilFunc] ∧
    isStr Try.prog 24 = false ∧
    szOf Try.prog 25 = some 1 ∧
    aggT Try.prog 25 = some false ∧
    zeroOf Try.prog 25 = some [.prim .nilFunc] ∧
    isStr Try.prog 25 = false ∧
    szOf Try.prog 26 = some 1 ∧
    aggT Try.prog 26 = some false ∧
    zeroOf Try.prog 26 = some [.frz [] .nilc] ∧
    elemOf Try.prog 26 = some 3 ∧
    apT Try.prog 26 = some 1 ∧
    isStr Try.prog 26 = false ∧
    szOf Try.prog 27 = some 2 ∧
    aggT Try.prog 27 = some true ∧
    zeroOf Try.prog 27 = some [.prim (.bool false), .frz [] .nilc] ∧
    isStr Try.prog 27 = false ∧
    fieldOf Try.prog 27 0 = some (0, 1, false) ∧
    fieldOf Try.prog 27 1 = some (1, 1, false) ∧
    fieldsOf Try.prog 27 = some [(0, 1), (1, 1)] ∧
    szOf Try.prog 28 = some 2 ∧
    aggT Try.prog 28 = some true ∧
    zeroOf Try.prog 28 = some [.prim (.bool false), .frz [] .nilc] ∧
    isStr Try.prog 28 = false ∧
    fieldOf Try.prog 28 0 = some (0, 1, false) ∧
    fieldOf Try.prog 28 1 = some (1, 1, false) ∧
    fieldsOf Try.prog 28 = some [(0, 1), (1, 1)] ∧
    szOf Try.prog 29 = some 1 ∧
    aggT Try.prog 29 = some false ∧
    zeroOf Try.prog 29 = some [.prim (.int .i64 0)] ∧
    intOfT Try.prog 29 = some .i64 ∧
    isStr Try.prog 29 = false ∧
    szOf Try.prog 31 = some 1 ∧
    aggT Try.prog 31 = some false ∧
    zeroOf Try.prog 31 = some [.prim .nilFunc] ∧
    isStr Try.prog 31 = false ∧
    szOf Try.prog 32 = some 1 ∧
    aggT Try.prog 32 = some false ∧
    zeroOf Try.prog 32 = some [.prim .nilFunc] ∧
    isStr Try.prog 32 = false ∧
    szOf Try.prog 33 = some 1 ∧
    aggT Try.prog 33 = some false ∧
    zeroOf Try.prog 33 = some [.prim .nilFunc] ∧
    isStr Try.prog 33 = false ∧
    szOf Try.prog 34 = some 1 ∧
    aggT Try.prog 34 = some false ∧
    zeroOf Try.prog 34 = some [.prim .nilFunc] ∧
    isStr Try.prog 34 = false ∧
    szOf Try.prog 35 = some 1 ∧
    aggT Try.prog 35 = some false ∧
    zeroOf Try.prog 35 = some [.prim .nilFunc] ∧
    isStr Try.prog 35 = false ∧
    szOf Try.prog 36 = some 1 ∧
    aggT Try.prog 36 = some false ∧
    zeroOf Try.prog 36 = some [.prim .nilFunc] ∧
    isStr Try.prog 36 = false ∧
    szOf Try.prog 37 = some 1 ∧
    aggT Try.prog 37 = some false ∧
    zeroOf Try.prog 37 = some [.prim (.int .i8 0)] ∧
    intOfT Try.prog 37 = some .i8 ∧
    isStr Try.prog 37 = false ∧
    szOf Try.prog 38 = some 2 ∧
    aggT Try.prog 38 = some true ∧
    zeroOf Try.prog 38 = some [.prim (.int .i8 0), .prim (.int .i8 0)] ∧
    arrOf Try.prog 38 = some (2, 1) ∧
    isStr Try.prog 38 = false ∧
    szOf Try.prog 39 = some 1 ∧
    aggT Try.prog 39 = some false ∧
    zeroOf Try.prog 39 = some [.frz [] .nilc] ∧
    elemOf Try.prog 39 = some 45 ∧
    apT Try.prog 39 = some 2 ∧
    isStr Try.prog 39 = false ∧
    szOf Try.prog 40 = some 2 ∧
    aggT Try.prog 40 = some true ∧
    zeroOf Try.prog 40 = some [.frz [] .nilc, .prim (.int .i64 0)] ∧
    isStr Try.prog 40 = false ∧
    fieldOf Try.prog 40 0 = some (0, 1, false) ∧
    fieldOf Try.prog 40 1 = some (1, 1, false) ∧
    fieldsOf Try.prog 40 = some [(0, 1), (1, 1)] ∧
    szOf Try.prog 41 = some 2 ∧
    aggT Try.prog 41 = some true ∧
    zeroOf Try.prog 41 = some [.frz [] .nilc, .prim (.int .i64 0)] ∧
    isStr Try.prog 41 = false ∧
    fieldOf Try.prog 41 0 = some (0, 1, false) ∧
    fieldOf Try.prog 41 1 = some (1, 1, false) ∧
    fieldsOf Try.prog 41 = some [(0, 1), (1, 1)] ∧
    szOf Try.prog 42 = some 3 ∧
    aggT Try.prog 42 = some true ∧
    zeroOf Try.prog 42 = some [.frz [] .nilc, .prim (.int .i64 0), .prim (.bool false)] ∧
    isStr Try.prog 42 = false ∧
    fieldOf Try.prog 42 0 = some (0, 2, true) ∧
    fieldOf Try.prog 42 1 = some (2, 1, false) ∧
    fieldsOf Try.prog 42 = some [(0, 2), (2, 1)] ∧
    szOf Try.prog 43 = some 3 ∧
    aggT Try.prog 43 = some true ∧
    zeroOf Try.prog 43 = some [.frz [] .nilc, .prim (.int .i64 0), .prim (.bool false)] ∧
    isStr Try.prog 43 = false ∧
    fieldOf Try.prog 43 0 = some (0, 2, true) ∧
    fieldOf Try.prog 43 1 = some (2, 1, false) ∧
    fieldsOf Try.prog 43 = some [(0, 2), (2, 1)] ∧
    szOf Try.prog 44 = some 2 ∧
    aggT Try.prog 44 = some true ∧
    zeroOf Try.prog 44 = some [.prim (.string ⟨#[]⟩), .prim (.int .i64 0)] ∧
    isStr Try.prog 44 = false ∧
    fieldOf Try.prog 44 0 = some (0, 1, false) ∧
    fieldOf Try.prog 44 1 = some (1, 1, false) ∧
    fieldsOf Try.prog 44 = some [(0, 1), (1, 1)] ∧
    flatK Try.prog 44 = some [2, 1] ∧
    szOf Try.prog 45 = some 2 ∧
    aggT Try.prog 45 = some true ∧
    zeroOf Try.prog 45 = some [.prim (.string ⟨#[]⟩), .prim (.int .i64 0)] ∧
    isStr Try.prog 45 = false ∧
    fieldOf Try.prog 45 0 = some (0, 1, false) ∧
    fieldOf Try.prog 45 1 = some (1, 1, false) ∧
    fieldsOf Try.prog 45 = some [(0, 1), (1, 1)] ∧
    flatK Try.prog 45 = some [2, 1] ∧
    szOf Try.prog 46 = some 1 ∧
    aggT Try.prog 46 = some false ∧
    zeroOf Try.prog 46 = some [.prim .nilFunc] ∧
    isStr Try.prog 46 = false ∧
    szOf Try.prog 47 = some 1 ∧
    aggT Try.prog 47 = some false ∧
    zeroOf Try.prog 47 = some [.prim .nilFunc] ∧
    isStr Try.prog 47 = false ∧
    szOf Try.prog 48 = some 1 ∧
    aggT Try.prog 48 = some false ∧
    zeroOf Try.prog 48 = some [.prim (.int .u16 0)] ∧
    intOfT Try.prog 48 = some .u16 ∧
    isStr Try.prog 48 = false ∧
    szOf Try.prog 49 = some 1 ∧
    aggT Try.prog 49 = some false ∧
    zeroOf Try.prog 49 = some [.prim .nilFunc] ∧
    isStr Try.prog 49 = false ∧
    szOf Try.prog 51 = some 1 ∧
    aggT Try.prog 51 = some false ∧
    zeroOf Try.prog 51 = some [.prim .nilFunc] ∧
    isStr Try.prog 51 = false ∧
    szOf Try.prog 52 = some 1 ∧
    aggT Try.prog 52 = some false ∧
    zeroOf Try.prog 52 = some [.prim .nilFunc] ∧
    isStr Try.prog 52 = false ∧
    szOf Try.prog 53 = some 1 ∧
    aggT Try.prog 53 = some false ∧
    zeroOf Try.prog 53 = some [.prim .nilFunc] ∧
    isStr Try.prog 53 = false ∧
    szOf Try.prog 54 = some 1 ∧
    aggT Try.prog 54 = some false ∧
    zeroOf Try.prog 54 = some [.prim .nilFunc] ∧
    isStr Try.prog 54 = false ∧
    szOf Try.prog 55 = some 1 ∧
    aggT Try.prog 55 = some false ∧
    zeroOf Try.prog 55 = some [.prim .nilFunc] ∧
    isStr Try.prog 55 = false ∧
    szOf Try.prog 56 = some 1 ∧
    aggT Try.prog 56 = some false ∧
    zeroOf Try.prog 56 = some [.prim .nilFunc] ∧
    isStr Try.prog 56 = false ∧
    szOf Try.prog 57 = some 1 ∧
    aggT Try.prog 57 = some false ∧
    zeroOf Try.prog 57 = some [.prim .nilFunc] ∧
    isStr Try.prog 57 = false ∧
    szOf Try.prog 58 = some 1 ∧
    aggT Try.prog 58 = some false ∧
    zeroOf Try.prog 58 = some [.frz [] .nilc] ∧
    elemOf Try.prog 58 = some 9 ∧
    apT Try.prog 58 = some 1 ∧
    isStr Try.prog 58 = false ∧
    szOf Try.prog 59 = some 1 ∧
    aggT Try.prog 59 = some false ∧
    zeroOf Try.prog 59 = some [.prim .nilFunc] ∧
    isStr Try.prog 59 = false ∧
    szOf Try.prog 60 = some 1 ∧
    aggT Try.prog 60 = some false ∧
    zeroOf Try.prog 60 = some [.prim .nilFunc] ∧
    isStr Try.prog 60 = false ∧
    szOf Try.prog 62 = some 1 ∧
    aggT Try.prog 62 = some false ∧
    zeroOf Try.prog 62 = some [.prim .nilFunc] ∧
    isStr Try.prog 62 = false ∧
    szOf Try.prog 63 = some 1 ∧
    aggT Try.prog 63 = some false ∧
    zeroOf Try.prog 63 = some [.prim .nilFunc] ∧
    isStr Try.prog 63 = false ∧
    szOf Try.prog 64 = some 1 ∧
    aggT Try.prog 64 = some false ∧
    zeroOf Try.prog 64 = some [.prim .nilFunc] ∧
    isStr Try.prog 64 = false ∧
    szOf Try.prog 65 = some 1 ∧
    aggT Try.prog 65 = some false ∧
    zeroOf Try.prog 65 = some [.prim .nilFunc] ∧
    isStr Try.prog 65 = false ∧
    szOf Try.prog 66 = some 1 ∧
    aggT Try.prog 66 = some false ∧
    zeroOf Try.prog 66 = some [.prim .nilFunc] ∧
    isStr Try.prog 66 = false ∧
    szOf Try.prog 68 = some 1 ∧
    aggT Try.prog 68 = some false ∧
    zeroOf Try.prog 68 = some [.prim .nilFunc] ∧
    isStr Try.prog 68 = false ∧
    szOf Try.prog 69 = some 1 ∧
    aggT Try.prog 69 = some false ∧
    zeroOf Try.prog 69 = some [.prim .nilFunc] ∧
    isStr Try.prog 69 = false ∧
    szOf Try.prog 70 = some 1 ∧
    aggT Try.prog 70 = some false ∧
    zeroOf Try.prog 70 = some [.prim .nilFunc] ∧
    isStr Try.prog 70 = false ∧
    szOf Try.prog 71 = some 1 ∧
    aggT Try.prog 71 = some false ∧
    zeroOf Try.prog 71 = some [.prim .nilFunc] ∧
    isStr Try.prog 71 = false ∧
    szOf Try.prog 72 = some 1 ∧
    aggT Try.prog 72 = some false ∧
    zeroOf Try.prog 72 = some [.prim .nilFunc] ∧
    isStr Try.prog 72 = false ∧
    szOf Try.prog 73 = some 1 ∧
    aggT Try.prog 73 = some false ∧
    zeroOf Try.prog 73 = some [.prim .nilFunc] ∧
    isStr Try.prog 73 = false ∧
    szOf Try.prog 74 = some 1 ∧
    aggT Try.prog 74 = some false ∧
    zeroOf Try.prog 74 = some [.prim (.int .u64 0)] ∧
    intOfT Try.prog 74 = some .u64 ∧
    isStr Try.prog 74 = false ∧
    szOf Try.prog 75 = some 1 ∧
    aggT Try.prog 75 = some false ∧
    zeroOf Try.prog 75 = some [.prim .nilFunc] ∧
    isStr Try.prog 75 = false ∧
    szOf Try.prog 76 = some 1 ∧
    aggT Try.prog 76 = some false ∧
    zeroOf Try.prog 76 = some [.prim (.int .u64 0)] ∧
    intOfT Try.prog 76 = some .u64 ∧
    isStr Try.prog 76 = false ∧
    szOf Try.prog 77 = some 1 ∧
    aggT Try.prog 77 = some false ∧
    zeroOf Try.prog 77 = some [.prim .nilFunc] ∧
    isStr Try.prog 77 = false ∧
    szOf Try.prog 78 = some 1 ∧
    aggT Try.prog 78 = some false ∧
    zeroOf Try.prog 78 = some [.prim .nilFunc] ∧
    isStr Try.prog 78 = false ∧
    szOf Try.prog 79 = some 1 ∧
    aggT Try.prog 79 = some false ∧
    zeroOf Try.prog 79 = some [.prim .nilFunc] ∧
    isStr Try.prog 79 = false ∧
    szOf Try.prog 81 = some 1 ∧
    aggT Try.prog 81 = some false ∧
    zeroOf Try.prog 81 = some [.prim .nilFunc] ∧
    isStr Try.prog 81 = false ∧
    szOf Try.prog 82 = some 1 ∧
    aggT Try.prog 82 = some false ∧
    zeroOf Try.prog 82 = some [.prim .nilFunc] ∧
    isStr Try.prog 82 = false ∧
    szOf Try.prog 83 = some 1 ∧
    aggT Try.prog 83 = some false ∧
    zeroOf Try.prog 83 = some [.prim .nilFunc] ∧
    isStr Try.prog 83 = false ∧
    szOf Try.prog 84 = some 1 ∧
    aggT Try.prog 84 = some false ∧
    zeroOf Try.prog 84 = some [.prim .nilFunc] ∧
    isStr Try.prog 84 = false ∧
    szOf Try.prog 85 = some 1 ∧
    aggT Try.prog 85 = some false ∧
    zeroOf Try.prog 85 = some [.prim .nilFunc] ∧
    isStr Try.prog 85 = false ∧
    szOf Try.prog 86 = some 1 ∧
    aggT Try.prog 86 = some false ∧
    zeroOf Try.prog 86 = some [.prim .nilFunc] ∧
    isStr Try.prog 86 = false ∧
    szOf Try.prog 87 = some 1 ∧
    aggT Try.prog 87 = some false ∧
    zeroOf Try.prog 87 = some [.prim .nilFunc] ∧
    isStr Try.prog 87 = false ∧
    szOf Try.prog 88 = some 1 ∧
    aggT Try.prog 88 = some false ∧
    zeroOf Try.prog 88 = some [.prim .nilFunc] ∧
    isStr Try.prog 88 = false ∧
    szOf Try.prog 89 = some 1 ∧
    aggT Try.prog 89 = some false ∧
    zeroOf Try.prog 89 = some [.prim .nilFunc] ∧
    isStr Try.prog 89 = false ∧
    szOf Try.prog 90 = some 1 ∧
    aggT Try.prog 90 = some false ∧
    zeroOf Try.prog 90 = some [.prim .nilFunc] ∧
    isStr Try.prog 90 = false ∧
    szOf Try.prog 91 = some 1 ∧
    aggT Try.prog 91 = some false ∧
    zeroOf Try.prog 91 = some [.prim .nilFunc] ∧
    isStr Try.prog 91 = false ∧
    szOf Try.prog 92 = some 1 ∧
    aggT Try.prog 92 = some false ∧
    zeroOf Try.prog 92 = some [.prim .nilFunc] ∧
    isStr Try.prog 92 = false ∧
    szOf Try.prog 93 = some 1 ∧
    aggT Try.prog 93 = some false ∧
    zeroOf Try.prog 93 = some [.prim .nilFunc] ∧
    isStr Try.prog 93 = false ∧
    szOf Try.prog 94 = some 1 ∧
    aggT Try.prog 94 = some false ∧
    zeroOf Try.prog 94 = some [.prim (.int .i64 0)] ∧
    intOfT Try.prog 94 = some .i64 ∧
    isStr Try.prog 94 = false ∧
    szOf Try.prog 96 = some 1 ∧
    aggT Try.prog 96 = some false ∧
    zeroOf Try.prog 96 = some [.prim .nilFunc] ∧
    isStr Try.prog 96 = false ∧
    szOf Try.prog 97 = some 1 ∧
    aggT Try.prog 97 = some false ∧
    zeroOf Try.prog 97 = some [.prim .nilFunc] ∧
    isStr Try.prog 97 = false ∧
    szOf Try.prog 98 = some 1 ∧
    aggT Try.prog 98 = some false ∧
    zeroOf Try.prog 98 = some [.prim .nilFunc] ∧
    isStr Try.prog 98 = false ∧
    szOf Try.prog 99 = some 1 ∧
    aggT Try.prog 99 = some false ∧
    zeroOf Try.prog 99 = some [.prim .nilFunc] ∧
    isStr Try.prog 99 = false ∧
    szOf Try.prog 100 = some 1 ∧
    aggT Try.prog 100 = some false ∧
    zeroOf Try.prog 100 = some [.prim .nilFunc] ∧
    isStr Try.prog 100 = false ∧
    szOf Try.prog 101 = some 1 ∧
    aggT Try.prog 101 = some false ∧
    zeroOf Try.prog 101 = some [.prim (.int .u32 0)] ∧
    intOfT Try.prog 101 = some .u32 ∧
    isStr Try.prog 101 = false ∧
    szOf Try.prog 102 = some 1 ∧
    aggT Try.prog 102 = some false ∧
    zeroOf Try.prog 102 = some [.prim .nilFunc] ∧
    isStr Try.prog 102 = false ∧
    szOf Try.prog 103 = some 1 ∧
    aggT Try.prog 103 = some false ∧
    zeroOf Try.prog 103 = some [.prim (.int .u64 0)] ∧
    intOfT Try.prog 103 = some .u64 ∧
    isStr Try.prog 103 = false ∧
    szOf Try.prog 104 = some 1 ∧
    aggT Try.prog 104 = some false ∧
    zeroOf Try.prog 104 = some [.prim .nilFunc] ∧
    isStr Try.prog 104 = false ∧
    szOf Try.prog 105 = some 1 ∧
    aggT Try.prog 105 = some false ∧
    zeroOf Try.prog 105 = some [.prim .nilFunc] ∧
    isStr Try.prog 105 = false ∧
    szOf Try.prog 106 = some 1 ∧
    aggT Try.prog 106 = some false ∧
    zeroOf Try.prog 106 = some [.prim .nilFunc] ∧
    isStr Try.prog 106 = false ∧
    szOf Try.prog 107 = some 1 ∧
    aggT Try.prog 107 = some false ∧
    zeroOf Try.prog 107 = some [.prim (.pointer none)] ∧
    isStr Try.prog 107 = false ∧
    szOf Try.prog 108 = some 1 ∧
    aggT Try.prog 108 = some false ∧
    zeroOf Try.prog 108 = some [.prim .nilFunc] ∧
    isStr Try.prog 108 = false ∧
    szOf Try.prog 109 = some 1 ∧
    aggT Try.prog 109 = some false ∧
    zeroOf Try.prog 109 = some [.prim (.pointer none)] ∧
    isStr Try.prog 109 = false ∧
    szOf Try.prog 111 = some 1 ∧
    aggT Try.prog 111 = some false ∧
    zeroOf Try.prog 111 = some [.prim .nilFunc] ∧
    isStr Try.prog 111 = false ∧
    szOf Try.prog 112 = some 1 ∧
    aggT Try.prog 112 = some false ∧
    zeroOf Try.prog 112 = some [.prim .nilFunc] ∧
    isStr Try.prog 112 = false ∧
    szOf Try.prog 118 = some 1 ∧
    aggT Try.prog 118 = some false ∧
    zeroOf Try.prog 118 = some [.prim .nilFunc] ∧
    isStr Try.prog 118 = false ∧
    szOf Try.prog 121 = some 1 ∧
    aggT Try.prog 121 = some false ∧
    zeroOf Try.prog 121 = some [.prim .nilFunc] ∧
    isStr Try.prog 121 = false ∧
    szOf Try.prog 122 = some 1 ∧
    aggT Try.prog 122 = some false ∧
    zeroOf Try.prog 122 = some [.prim (.pointer none)] ∧
    isStr Try.prog 122 = false :=
  ⟨by kernel_rfl, by kernel_rfl, by kernel_rfl, by kernel_rfl, by kernel_rfl, by kernel_rfl, by kernel_rfl, by kernel_rfl, by kernel_rfl, by kernel_rfl, by kernel_rfl, by kernel_rfl, by kernel_rfl, by kernel_rfl, by kernel_rfl, by kernel_rfl, by kernel_rfl, by kernel_rfl, by kernel_rfl, by kernel_rfl, by kernel_rfl, by kernel_rfl, by kernel_rfl, by kernel_rfl, by kernel_rfl, by kernel_rfl, by kernel_rfl, by kernel_rfl, by kernel_rfl, by kernel_rfl, by kernel_rfl, by kernel_rfl, by kernel_rfl, by kernel_rfl, by kernel_rfl, by kernel_rfl, by kernel_rfl, by kernel_rfl, by kernel_rfl, by kernel_rfl, by kernel_rfl, by kernel_rfl, by kernel_rfl, by kernel_rfl, by kernel_rfl, by kernel_rfl, by kernel_rfl, by kernel_rfl, by kernel_rfl, by kernel_rfl, by kernel_rfl, by kernel_rfl, by kernel_rfl, by kernel_rfl, by kernel_rfl, by kernel_rfl, by kernel_rfl, by kernel_rfl, by kernel_rfl, by kernel_rfl, by kernel_rfl, by kernel_rfl, by kernel_rfl, by kernel_rfl, by kernel_rfl, by kernel_rfl, by kernel_rfl, by kernel_rfl, by kernel_rfl, by kernel_rfl, by kernel_rfl, by kernel_rfl, by kernel_rfl, by kernel_rfl, by kernel_rfl, by kernel_rfl, by kernel_rfl, by kernel_rfl, by kernel_rfl, by kernel_rfl, by kernel_rfl, by kernel_rfl, by kernel_rfl, by kernel_rfl, by kernel_rfl, by kernel_rfl, by kernel_rfl, by kernel_rfl, by kernel_rfl, by kernel_rfl, by kernel_rfl, by kernel_rfl, by kernel_rfl, by kernel_rfl, by kernel_rfl, by kernel_rfl, by kernel_rfl, by kernel_rfl, by kernel_rfl, by kernel_rfl, by kernel_rfl, by kernel_rfl, by kernel_rfl, by kernel_rfl, by kernel_rfl, by kernel_rfl, by kernel_rfl, by kernel_rfl, by kernel_rfl, by kernel_rfl, by kernel_rfl, by kernel_rfl, by kernel_rfl, by kernel_rfl, by kernel_rfl, by kernel_rfl, by kernel_rfl, by kernel_rfl, by kernel_rfl, by kernel_rfl, by kernel_rfl, by kernel_rfl, by kernel_rfl, by kernel_rfl, by kernel_rfl, by kernel_rfl, by kernel_rfl, by kernel_rfl, by kernel_rfl, by kernel_rfl, by kernel_rfl, by kernel_rfl, by kernel_rfl, by kernel_rfl, by kernel_rfl, by kernel_rfl, by kernel_rfl, by kernel_rfl, by kernel_rfl, by kernel_rfl, by kernel_rfl, by kernel_rfl, by kernel_rfl, by kernel_rfl, by kernel_rfl, by kernel_rfl, by kernel_rfl, by kernel_rfl, by kernel_rfl, by kernel_rfl, by kernel_rfl, by kernel_rfl, by kernel_rfl, by kernel_rfl, by kernel_rfl, by kernel_rfl, by kernel_rfl, by kernel_rfl, by kernel_rfl, by kernel_rfl, by kernel_rfl, by kernel_rfl, by kernel_rfl, by kernel_rfl, by kernel_rfl, by kernel_rfl, by kernel_rfl, by kernel_rfl, by kernel_rfl, by kernel_rfl, by kernel_rfl, by kernel_rfl, by kernel_rfl, by kernel_rfl, by kernel_rfl, by kernel_rfl, by kernel_rfl, by kernel_rfl, by kernel_rfl, by kernel_rfl, by kernel_rfl, by kernel_rfl, by kernel_rfl, by kernel_rfl, by kernel_rfl, by kernel_rfl, by kernel_rfl, by kernel_rfl, by kernel_rfl, by kernel_rfl, by kernel_rfl, by kernel_rfl, by kernel_rfl, by kernel_rfl, by kernel_rfl, by kernel_rfl, by kernel_rfl, by kernel_rfl, by kernel_rfl, by kernel_rfl, by kernel_rfl, by kernel_rfl, by kernel_rfl, by kernel_rfl, by kernel_rfl, by kernel_rfl, by kernel_rfl, by kernel_rfl, by kernel_rfl, by kernel_rfl, by kernel_rfl, by kernel_rfl, by kernel_rfl, by kernel_rfl, by kernel_rfl, by kernel_rfl, by kernel_rfl, by kernel_rfl, by kernel_rfl, by kernel_rfl, by kernel_rfl, by kernel_rfl, by kernel_rfl, by kernel_rfl, by kernel_rfl, by kernel_rfl, by kernel_rfl, by kernel_rfl, by kernel_rfl, by kernel_rfl, by kernel_rfl, by kernel_rfl, by kernel_rfl, by kernel_rfl, by kernel_rfl, by kernel_rfl, by kernel_rfl, by kernel_rfl, by kernel_rfl, by kernel_rfl, by kernel_rfl, by kernel_rfl, by kernel_rfl, by kernel_rfl, by kernel_rfl, by kernel_rfl, by kernel_rfl, by kernel_rfl, by kernel_rfl, by kernel_rfl, by kernel_rfl, by kernel_rfl, by kernel_rfl, by kernel_rfl, by kernel_rfl, by kernel_rfl, by kernel_rfl, by kernel_rfl, by kernel_rfl, by kernel_rfl, by kernel_rfl, by kernel_rfl, by kernel_rfl, by kernel_rfl, by kernel_rfl, by kernel_rfl, by kernel_rfl, by kernel_rfl, by kernel_rfl, by kernel_rfl, by kernel_rfl, by kernel_rfl, by kernel_rfl, by kernel_rfl, by kernel_rfl, by kernel_rfl, by kernel_rfl, by kernel_rfl, by kernel_rfl, by kernel_rfl, by kernel_rfl, by kernel_rfl, by kernel_rfl, by kernel_rfl, by kernel_rfl, by kernel_rfl, by kernel_rfl, by kernel_rfl, by kernel_rfl, by kernel_rfl, by kernel_rfl, by kernel_rfl, by kernel_rfl, by kernel_rfl, by kernel_rfl, by kernel_rfl, by kernel_rfl, by kernel_rfl, by kernel_rfl, by kernel_rfl, by kernel_rfl, by kernel_rfl, by kernel_rfl, by kernel_rfl, by kernel_rfl, by kernel_rfl, by kernel_rfl, by kernel_rfl, by kernel_rfl, by kernel_rfl, by kernel_rfl, by kernel_rfl, by kernel_rfl, by kernel_rfl, by kernel_rfl, by kernel_rfl, by kernel_rfl, by kernel_rfl, by kernel_rfl, by kernel_rfl, by kernel_rfl, by kernel_rfl, by kernel_rfl, by kernel_rfl, by kernel_rfl, by kernel_rfl, by kernel_rfl, by kernel_rfl, by kernel_rfl, by kernel_rfl, by kernel_rfl, by kernel_rfl, by kernel_rfl, by kernel_rfl, by kernel_rfl, by kernel_rfl, by kernel_rfl, by kernel_rfl, by kernel_rfl, by kernel_rfl, by kernel_rfl, by kernel_rfl, by kernel_rfl, by kernel_rfl, by kernel_rfl, by kernel_rfl, by kernel_rfl, by kernel_rfl, by kernel_rfl, by kernel_rfl, by kernel_rfl, by kernel_rfl, by kernel_rfl, by kernel_rfl, by kernel_rfl, by kernel_rfl, by kernel_rfl, by kernel_rfl, by kernel_rfl, by kernel_rfl, by kernel_rfl, by kernel_rfl, by kernel_rfl, by kernel_rfl, by kernel_rfl, by kernel_rfl, by kernel_rfl, by kernel_rfl, by kernel_rfl, by kernel_rfl, by kernel_rfl, by kernel_rfl, by kernel_rfl, by kernel_rfl, by kernel_rfl, by kernel_rfl, by kernel_rfl, by kernel_rfl, by kernel_rfl, by kernel_rfl, by kernel_rfl, by kernel_rfl, by kernel_rfl, by kernel_rfl, by kernel_rfl, by kernel_rfl, by kernel_rfl, by kernel_rfl, by kernel_rfl, by kernel_rfl, by kernel_rfl, by kernel_rfl, by kernel_rfl, by kernel_rfl, by kernel_rfl, by kernel_rfl, by kernel_rfl, by kernel_rfl, by kernel_rfl, by kernel_rfl, by kernel_rfl, by kernel_rfl, by kernel_rfl, by kernel_rfl, by kernel_rfl, by kernel_rfl, by kernel_rfl, by kernel_rfl, by kernel_rfl, by kernel_rfl, by kernel_rfl, by kernel_rfl, by kernel_rfl, by kernel_rfl, by kernel_rfl, by kernel_rfl, by kernel_rfl, by kernel_rfl, by kernel_rfl, by kernel_rfl, by kernel_rfl, by kernel_rfl, by kernel_rfl, by kernel_rfl, by kernel_rfl, by kernel_rfl, by kernel_rfl, by kernel_rfl, by kernel_rfl, by kernel_rfl, by kernel_rfl, by kernel_rfl, by kernel_rfl, by kernel_rfl, by kernel_rfl⟩
end Go.Proofs.Ytmgbmbganlndkaa
/-
  Numbers as lists of digits to the base 10000: plain arithmetic.
-/

namespace Go.Proofs.Ytmgbmbganlndkaa

def val : List Int → Int
  | [] => 0
  | d :: r => d + 10000 * val r
def digN : Nat → Nat → List Int
  | 0, _ => []
  | f + 1, n => if n = 0 then [] else ((n % 10000 : Nat) : Int) :: digN f (n / 10000)
/-- the digits of a number, the least one first -/
def dig (n : Nat) : List Int := digN n n
def okD (l : List Int) : Prop := ∀ d ∈ l, 0 ≤ d ∧ d < 10000
theorem digN_fuel : ∀ {f g n : Nat}, n ≤ f → n ≤ g → digN f n = digN g n
  | 0, 0, _, _, _ => rfl
  | 0, g + 1, n, h, _ => by have : n = 0 := by omega
                            subst this; simp [digN]
  | f + 1, 0, n, _, h => by have : n = 0 := by omega
                            subst this; simp [digN]
  | f + 1, g + 1, n, h1, h2 => by
    simp only [digN]
    by_cases h : n = 0
    · simp [h]
    · rw [if_neg h, if_neg h, digN_fuel (f := f) (g := g) (n := n / 10000) (by omega) (by omega)]
theorem dig_zero : dig 0 = [] := rfl
theorem dig_step {n : Nat} (h : n ≠ 0) : dig n = ((n % 10000 : Nat) : Int) :: dig (n / 10000) := by
  unfold dig
  cases n with
  | zero => exact absurd rfl h
  | succ n =>
    rw [digN, if_neg h]
    congr 1
    exact digN_fuel (by omega) (Nat.le_refl _)
theorem val_dig (n : Nat) : val (dig n) = n := by
  induction n using Nat.strongRecOn with
  | _ n ih =>
    by_cases h : n = 0
    · subst h; rfl
    · rw [dig_step h, val, ih (n / 10000) (by omega)]; omega
theorem okD_dig (n : Nat) : okD (dig n) := by
  induction n using Nat.strongRecOn with
  | _ n ih =>
    by_cases h : n = 0
    · subst h; intro d hd; simp [dig_zero] at hd
    · rw [dig_step h]
      intro d hd
      rcases List.mem_cons.1 hd with rfl | hd
      · omega
      · exact ih (n / 10000) (by omega) d hd
theorem dig_one {d : Int} (h0 : 0 < d) (h1 : d < 10000) : dig d.toNat = [d] := by
  rw [dig_step (by omega)]
  have e1 : d.toNat % 10000 = d.toNat := Nat.mod_eq_of_lt (by omega)
  have e2 : d.toNat / 10000 = 0 := by omega
  rw [e1, e2, dig_zero]
  congr 1; omega
theorem val_nonneg : ∀ {l : List Int}, okD l → 0 ≤ val l
  | [], _ => by simp [val]
  | d :: r, h => by
    have h1 := h d (by simp)
    have h2 := val_nonneg (l := r) fun x hx => h x (by simp [hx])
    simp only [val]; omega
/-- without zeros at the end -/
def trimL : List Int → List Int
  | [] => []
  | d :: r => if trimL r = [] ∧ d = 0 then [] else d :: trimL r
theorem dig_nil {n : Nat} : dig n = [] ↔ n = 0 := by
  constructor
  · intro h
    by_cases h0 : n = 0
    · exact h0
    · rw [dig_step h0] at h; simp at h
  · rintro rfl; rfl
theorem trim_dig : ∀ {l : List Int}, okD l → trimL l = dig (val l).toNat
  | [], _ => rfl
  | d :: r, h => by
    have h1 := h d (by simp)
    have hr : okD r := fun x hx => h x (by simp [hx])
    have h2 := val_nonneg hr
    rw [trimL, trim_dig hr]
    simp only [val]
    by_cases hv : val r = 0
    · by_cases hd : d = 0
      · rw [if_pos ⟨by rw [hv]; rfl, hd⟩, hv, hd]; rfl
      · rw [if_neg (fun h => hd h.2), hv]
        have e : (d + 10000 * 0).toNat = d.toNat := by omega
        rw [e, dig_one (by omega) h1.2]; rfl
    · have hn : ¬ (val r).toNat = 0 := by omega
      rw [if_neg (fun h => hn (dig_nil.1 h.1)), dig_step (n := (d + 10000 * val r).toNat) (by omega)]
      have e1 : (d + 10000 * val r).toNat / 10000 = (val r).toNat := by omega
      have e2 : (((d + 10000 * val r).toNat % 10000 : Nat) : Int) = d := by omega
      rw [e1, e2]
theorem dig_len {n k : Nat} : (dig n).length ≤ k ↔ n < 10000 ^ k := by
  induction k generalizing n with
  | zero =>
    rw [Nat.pow_zero]
    constructor
    · intro h
      have : dig n = [] := List.eq_nil_of_length_eq_zero (by omega)
      have := dig_nil.1 this; omega
    · intro h
      have : n = 0 := by omega
      subst this; simp [dig_zero]
  | succ k ih =>
    by_cases h : n = 0
    · subst h; simp [dig_zero, Nat.pow_pos]
    · rw [dig_step h, List.length_cons, Nat.add_le_add_iff_right, ih, Nat.pow_succ, Nat.div_lt_iff_lt_mul (by omega)]
theorem dig_inj {a b : Nat} (h : dig a = dig b) : a = b := by
  have h1 := val_dig a
  have h2 := val_dig b
  rw [h] at h1; omega
theorem val_append (l r : List Int) : val (l ++ r) = val l + 10000 ^ l.length * val r := by
  induction l with
  | nil => simp [val]
  | cons d l ih => simp only [List.cons_append, val, ih, List.length_cons, Int.pow_succ]; rw [Int.mul_add, Int.mul_comm (10000 ^ l.length) 10000, Int.mul_assoc]; omega
theorem val_replicate (n : Nat) : val (List.replicate n 0) = 0 := by
  induction n with
  | zero => rfl
  | succ n ih => rw [List.replicate_succ, val, ih]; rfl
theorem val_set {l : List Int} {i : Nat} {x v : Int} (h : nth l i = some x) : val (l.set i v) = val l + (v - x) * 10000 ^ i := by
  induction l generalizing i with
  | nil => simp [nth] at h
  | cons d l ih =>
    cases i with
    | zero => simp only [nth, Option.some.injEq] at h; subst h; simp only [List.set_cons_zero, val, Int.pow_zero]; omega
    | succ i =>
      simp only [nth] at h
      simp only [List.set_cons_succ, val, ih h, Int.pow_succ]
      rw [Int.mul_add, Int.mul_comm (10000 ^ i) 10000, ← Int.mul_assoc, ← Int.mul_assoc, Int.mul_comm 10000 (v - x)]; omega
theorem okD_trim {l : List Int} (h : okD l) : okD (trimL l) := by rw [trim_dig h]; exact okD_dig _
theorem trim_len (l : List Int) : (trimL l).length ≤ l.length := by
  induction l with
  | nil => simp [trimL]
  | cons d l ih => rw [trimL]; split <;> simp; exact ih
/-- the loop that cuts zeros off -/
theorem trim_take : ∀ (n : Nat) (l : List Int), n ≤ l.length → (∀ j, n ≤ j → ∀ x, nth l j = some x → x = 0) → trimL l = trimL (l.take n)
  | 0, [], _, _ => rfl
  | 0, d :: l, _, h => by
    have hd := h 0 (Nat.le_refl _) d rfl
    have := trim_take 0 l (Nat.zero_le _) fun j _ x hx => h (j + 1) (Nat.zero_le _) x hx
    rw [trimL, this, hd]; simp [trimL]
  | n + 1, [], h, _ => by simp at h
  | n + 1, d :: l, hn, h => by
    have := trim_take n l (by simpa using hn) fun j hj x hx => h (j + 1) (by omega) x hx
    rw [List.take_succ_cons, trimL, trimL, this]
theorem trim_end : ∀ (l : List Int) (n : Nat) (x : Int), nth l n = some x → l.length = n + 1 → x ≠ 0 → trimL l = l
  | [], _, _, h, _, _ => by simp [nth] at h
  | d :: l, 0, x, h, hl, hx => by
    have : l = [] := List.eq_nil_of_length_eq_zero (by simpa using hl)
    subst this
    simp only [nth, Option.some.injEq] at h; subst h
    simp [trimL, hx]
  | d :: l, n + 1, x, h, hl, hx => by
    have ih := trim_end l n x h (by simpa using hl) hx
    have hne : l ≠ [] := by rintro rfl; simp [nth] at h
    rw [trimL, ih, if_neg (fun h => hne h.1)]

/- which numbers are valid, and what they stand for -/
def lastZ (l : List Int) : Bool := match nth l (l.length - 1) with | some x => x == 0 | none => false
def allD : List Int → Bool
  | [] => true
  | d :: r => if (decide (d < 0) || decide (d ≥ 10000)) = true then false else allD r
theorem allD_ok {l : List Int} : allD l = true ↔ okD l := by
  induction l with
  | nil => simp [allD, okD]
  | cons d l ih =>
    rw [allD]
    by_cases h : d < 0 ∨ d ≥ 10000
    · have : (decide (d < 0) || decide (d ≥ 10000)) = true := by simpa using h
      simp only [this, if_true, Bool.false_eq_true, false_iff]
      intro hk
      have := hk d (by simp); omega
    · have : (decide (d < 0) || decide (d ≥ 10000)) = false := by simp; omega
      simp only [this, Bool.false_eq_true, if_false, ih]
      constructor
      · intro hk x hx
        rcases List.mem_cons.1 hx with rfl | hx
        · omega
        · exact hk x hx
      · exact fun hk x hx => hk x (by simp [hx])
def validF (neg : Bool) (l : List Int) : Bool := if (decide (200 < l.length) || (decide (l = []) && neg) || lastZ l) = true then false else allD l
def V (neg : Bool) (l : List Int) : Int := if validF neg l = true then (if neg = true then -(val l) else val l) else 0
theorem valid_dig {neg : Bool} {l : List Int} (h : validF neg l = true) : l = dig (val l).toNat ∧ okD l ∧ l.length ≤ 200 := by
  unfold validF at h
  split at h
  · simp at h
  · rename_i hh
    have hk := allD_ok.1 h
    simp only [Bool.or_eq_true, decide_eq_true_eq, not_or] at hh
    refine ⟨?_, hk, by omega⟩
    rw [← trim_dig hk]
    by_cases hl : l = []
    · subst hl; rfl
    · have hpos : 0 < l.length := List.length_pos_iff.2 hl
      obtain ⟨x, hx⟩ := nth_some (l := l) (i := l.length - 1) (by omega)
      have hz := hh.2
      unfold lastZ at hz
      rw [hx] at hz
      exact (trim_end l (l.length - 1) x hx (by omega) (by simpa using hz)).symm
theorem V_abs (neg : Bool) (l : List Int) : dig (V neg l).natAbs = if validF neg l = true then l else [] := by
  unfold V
  by_cases h : validF neg l = true
  · obtain ⟨h1, h2, -⟩ := valid_dig h
    have h3 := val_nonneg h2
    rw [if_pos h, if_pos h]
    conv => rhs; rw [h1]
    congr 1
    split <;> omega
  · rw [if_neg h, if_neg h]; rfl
theorem V_len (neg : Bool) (l : List Int) : (dig (V neg l).natAbs).length ≤ 200 := by
  rw [V_abs]
  split
  · rename_i h; exact (valid_dig h).2.2
  · simp
/-- a number as its sign and digits -/
theorem valid_of (z : Int) (h : (dig z.natAbs).length ≤ 200) : validF (decide (z < 0)) (dig z.natAbs) = true := by
  unfold validF
  have hk := okD_dig z.natAbs
  rw [if_neg]
  · exact allD_ok.2 hk
  · simp only [Bool.or_eq_true, decide_eq_true_eq, Bool.and_eq_true, not_or]
    refine ⟨⟨by omega, fun h => ?_⟩, fun hz => ?_⟩
    · have := dig_nil.1 h.1; omega
    · unfold lastZ at hz
      split at hz
      · rename_i x hx
        have hx0 : x = 0 := by simpa using hz
        subst hx0
        -- a last digit 0 would be trimmed
        have ht := trim_dig hk
        rw [val_dig] at ht
        have e : ((z.natAbs : Int)).toNat = z.natAbs := by omega
        rw [e] at ht
        have hl := nth_lt hx
        have h1 := trim_take ((dig z.natAbs).length - 1) (dig z.natAbs) (by omega) (fun j hj y hy => by
          have : j = (dig z.natAbs).length - 1 := by have := nth_lt hy; omega
          subst this
          rw [hx] at hy; simpa using hy.symm)
        have h2 := trim_len ((dig z.natAbs).take ((dig z.natAbs).length - 1))
        rw [← h1, ht] at h2
        simp at h2; omega
      · simp at hz
theorem V_of (z : Int) (h : (dig z.natAbs).length ≤ 200) : V (decide (z < 0)) (dig z.natAbs) = z := by
  unfold V
  rw [if_pos (valid_of z h), val_dig]
  by_cases hz : z < 0 <;> simp [hz] <;> omega
end Go.Proofs.Ytmgbmbganlndkaa
/-
  How the numbers lie in memory; the functions that may be called with slices of one's own.
-/


namespace Go.Proofs.Ytmgbmbganlndkaa
open Go

def digC (x : Int) : List AV := [.prim (.int .i64 x)]
def digA (l : List Int) : AV := .frz (l.map digC) .unk
def bigA (neg : Bool) (l : List Int) : AV := .agg [.prim (.bool neg), digA l]
def zA (z : Int) : AV := bigA (decide (z < 0)) (dig z.natAbs)
instance : Globs := ⟨[], fun f => f == 57 || f == 56, true⟩
end Go.Proofs.Ytmgbmbganlndkaa
/-
  What is told from outside here: the union of names.
-/

namespace Go.Proofs.Ytmgbmbganlndkaa
open Go

def strC (s : ByteArray) : List AV := [.prim (.string s)]
def strsA (l : List ByteArray) : AV := .frz (l.map strC) .unk
/-- the names of a list of cells -/
def strsOf : List (List AV) → Option (List ByteArray)
  | [] => some []
  | [.prim (.string x)] :: r => (strsOf r).map (x :: ·)
  | _ => none
theorem strsOf_map : ∀ l : List ByteArray, strsOf (l.map strC) = some l
  | [] => rfl
  | x :: l => by simp only [List.map_cons, strC, strsOf, strsOf_map l, Option.map_some]
theorem strsOf_some : ∀ {es : List (List AV)} {l : List ByteArray}, strsOf es = some l → es = l.map strC
  | [], l, h => by simp only [strsOf, Option.some.injEq] at h; subst h; rfl
  | e :: es, l, h => by
    unfold strsOf at h
    split at h
    · rename_i he; simp at he
    · rename_i x r he
      simp only [List.cons.injEq] at he
      obtain ⟨rfl, rfl⟩ := he
      simp only [Option.map_eq_some_iff] at h
      obtain ⟨l', h1, rfl⟩ := h
      rw [strsOf_some h1]; rfl
    · simp at h
/-- a name put into an increasing list, unless it is there -/
def putS (l : List ByteArray) (s : ByteArray) : List ByteArray :=
  match l with
  | [] => [s]
  | x :: r => if sLt x s = true then x :: putS r s else if sEq x s = true then x :: r else s :: x :: r
/-- the names of a list, increasing, each once -/
def uniS (l : List ByteArray) : List ByteArray := l.foldl putS []
def isNilc : Cap → Bool
  | .nilc => true
  | _ => false
instance : Ext Try.prog where
  on := fun f => f == 76
  mv := fun _ => false
  call := fun f args S tk n => if f == 76 then (match args with
    | [.frz es c, .frz [] .nilc] => match strsOf es with
      | some l => if (decide (l.length ≤ 1000000) && (!l.isEmpty || isNilc c)) = true then some (strsA (uniS l), S, tk, n) else none
      | none => none
    | _ => none) else none

theorem ext_mv (f : FuncId) : Ext.mv Try.prog f = false := rfl
theorem sh_trim : shF 57 = true ∧ keepFn Try.prog 57 1 = true ∧ Ext.on Try.prog 57 = false := ⟨rfl, by kernel_rfl, rfl⟩
theorem sh_signed : shF 56 = true ∧ keepFn Try.prog 56 2 = true ∧ Ext.on Try.prog 56 = false := ⟨rfl, by kernel_rfl, rfl⟩
section
variable (S : List Ent) (tk : List Nat) (k : Nat)
theorem names_Union (l : List ByteArray) (c : Cap) (hlen : l.length ≤ 1000000) (hc : (!l.isEmpty || isNilc c) = true) : cL Try.prog 76 [.frz (l.map strC) c, .frz [] .nilc] S tk k = some (strsA (uniS l), S, tk, k) := by
  refine call_ext rfl ?_
  simp only [Ext.call, strsOf_map, beq_self_eq_true, if_true]
  rw [if_pos (by rw [hc]; simpa using hlen)]
end
end Go.Proofs.Ytmgbmbganlndkaa
/-
  What the functions of the numbers compute: which numbers are valid; cutting zeros off; comparing.
-/


namespace Go.Proofs.Ytmgbmbganlndkaa
open Go

def i64 (n : Int) : Prop := -9223372036854775808 ≤ n ∧ n ≤ 9223372036854775807
theorem wrap_of {n : Int} (h : i64 n) : IntKind.i64.wrap n = n := Go.IntWalk.i64_in n h
theorem wrap_add {i : Nat} (h : i ≤ 1048576) : IntKind.i64.wrap ((i : Int) + 1) = ((i + 1 : Nat) : Int) := by rw [wrap_of (by unfold i64; omega)]; omega
theorem wrap_pred {j : Nat} (h : j ≤ 1048576) : IntKind.i64.wrap (((j + 1 : Nat) : Int) - 1) = (j : Int) := by rw [wrap_of (by unfold i64; omega)]; omega
theorem nth_map {α β : Type} (f : α → β) : ∀ (l : List α) (i : Nat), nth (l.map f) i = (nth l i).map f
  | [], _ => rfl
  | _ :: _, 0 => rfl
  | _ :: l, i + 1 => nth_map f l i
theorem nth_drop {α : Type} : ∀ {l : List α} {i : Nat} {x : α}, nth l i = some x → l.drop i = x :: l.drop (i + 1)
  | y :: l, 0, x, h => by simp only [nth, Option.some.injEq] at h; subst h; rfl
  | _ :: l, i + 1, x, h => nth_drop (l := l) (i := i) h
  | [], _, _, h => by simp [nth] at h
theorem rowsOk_dig (l : List Int) : rowsOk 1 (l.map digC) = true := rowsOk_map (f := digC) (sz := 1) (fun _ => rfl) l
theorem nth_dig {l : List Int} {i : Nat} {x : Int} (h : nth l i = some x) : nth (l.map digC) i = some [.prim (.int .i64 x)] := by rw [nth_map, h]; rfl

theorem len_eq_zero {l : List Int} (h : l ≠ []) : ((l.length : Int) == 0) = false := by
  have : l.length ≠ 0 := fun h' => h (List.length_eq_zero_iff.1 h')
  simp; omega
theorem len_gt_zero {l : List Int} (h : l ≠ []) : decide ((l.length : Int) > 0) = true := by
  have : l.length ≠ 0 := fun h' => h (List.length_eq_zero_iff.1 h')
  simp; omega
theorem last_idx {l : List Int} (h : l ≠ []) (hl : l.length ≤ 1000000) : IntKind.i64.wrap ((l.length : Int) - 1) = ((l.length - 1 : Nat) : Int) := by
  have : l.length ≠ 0 := fun h' => h (List.length_eq_zero_iff.1 h')
  rw [wrap_of (by unfold i64; omega)]; omega

section
variable (S : List Ent) (tk : List Nat) (k : Nat)
theorem big_Valid (neg : Bool) (l : List Int) (c : Cap) (hlen : l.length ≤ 1000000) : cL Try.prog 26 [.agg [.bool neg, .frz (l.map digC) c]] S tk k = some (.bool (validF neg l), S, tk, k) := by
  refine call_pure Try.func26 rfl rfl (by decide +kernel) (by decide +kernel) Try.ntmps26 rfl rfl _ _ _ rfl ?_; rw [RK_KX]
  by_cases h1 : 200 < l.length
  · have d1 : decide ((l.length : Int) > 200) = true := by simp; omega
    simp (maxSteps := 1000000) +contextual (disch := first | with_reducible assumption | exact ⟨rfl⟩ | exact ⟨rfl, rfl⟩ | (refine _root_.id ?_; kernel_rfl) | omega) only [evs, ext_mv, nth, put, putT, getT, binInt, binStr, binBool, aUn, outA, resA, mapO, resA1, oneOf, w1, w2, w3, bots, cond_true, cond_false, if_true, if_false, ite_true, ite_false, reduceIte, reduceCtorEq, implies_true, Nat.reduceAdd, Nat.reduceSub, AV.int, AV.bool, AV.str, Nat.reduceBEq, Nat.reduceEqDiff, Nat.reduceMul, Nat.reduceLT, Nat.reduceLeDiff, Int.reduceNeg, BEq.rfl, beq_self_eq_true, tabl, cellsOf, fldA, ldA, stA, entAt, partA, takeN, over, leafOk, Value.oneCell', idxA, nilA, cellsEq, fillA, elemsA, pure1, pure2, reps, chkA, tys, Try.results26, KX_draw, KX_drawQ, KX_tail, lastO_one, lastO_more, dropL_one, dropL_more, callP_eq, callM_true, w2, w1, d1]
    all_goals simp [validF, h1]
  have d1 : decide ((l.length : Int) > 200) = false := by simp; omega
  have hv : validF neg l = if ((decide (l = []) && neg) || lastZ l) = true then false else allD l := by simp [validF, h1]
  rw [hv]
  by_cases h2 : l = []
  · have d2 : (((0 : Nat) : Int) == 0) = true := rfl
    have d3 : decide (((0 : Nat) : Int) > 0) = false := rfl
    cases neg with
    | true =>
      subst h2
      simp (maxSteps := 1000000) +contextual (disch := first | with_reducible assumption | exact ⟨rfl⟩ | exact ⟨rfl, rfl⟩ | (refine _root_.id ?_; kernel_rfl) | omega) only [evs, ext_mv, nth, put, putT, getT, binInt, binStr, binBool, aUn, outA, resA, mapO, resA1, oneOf, w1, w2, w3, bots, cond_true, cond_false, if_true, if_false, ite_true, ite_false, reduceIte, reduceCtorEq, implies_true, Nat.reduceAdd, Nat.reduceSub, AV.int, AV.bool, AV.str, Nat.reduceBEq, Nat.reduceEqDiff, Nat.reduceMul, Nat.reduceLT, Nat.reduceLeDiff, Int.reduceNeg, BEq.rfl, beq_self_eq_true, tabl, cellsOf, fldA, ldA, stA, entAt, partA, takeN, over, leafOk, Value.oneCell', idxA, nilA, cellsEq, fillA, elemsA, pure1, pure2, reps, chkA, tys, Try.results26, KX_draw, KX_drawQ, KX_tail, lastO_one, lastO_more, dropL_one, dropL_more, callP_eq, callM_true, w2, w1, d1, d2, d3, List.map_nil]
      all_goals simp
    | false =>
      have hz : lastZ l = false := by subst h2; rfl
      rw [hz]
      simp only [Bool.and_false, Bool.or_false, Bool.false_eq_true, if_false]
      have hl0 : l.length = 0 := by rw [h2]; rfl
      have d2 : ((l.length : Int) == 0) = true := by rw [hl0]; rfl
      have d3 : decide ((l.length : Int) > 0) = false := by rw [hl0]; rfl
      simp (maxSteps := 1000000) +contextual (disch := first | with_reducible assumption | exact ⟨rfl⟩ | exact ⟨rfl, rfl⟩ | (refine _root_.id ?_; kernel_rfl) | omega) only [evs, ext_mv, nth, put, putT, getT, binInt, binStr, binBool, aUn, outA, resA, mapO, resA1, oneOf, w1, w2, w3, bots, cond_true, cond_false, if_true, if_false, ite_true, ite_false, reduceIte, reduceCtorEq, implies_true, Nat.reduceAdd, Nat.reduceSub, AV.int, AV.bool, AV.str, Nat.reduceBEq, Nat.reduceEqDiff, Nat.reduceMul, Nat.reduceLT, Nat.reduceLeDiff, Int.reduceNeg, BEq.rfl, beq_self_eq_true, tabl, cellsOf, fldA, ldA, stA, entAt, partA, takeN, over, leafOk, Value.oneCell', idxA, nilA, cellsEq, fillA, elemsA, pure1, pure2, reps, chkA, tys, Try.results26, KX_draw, KX_drawQ, KX_tail, lastO_one, lastO_more, dropL_one, dropL_more, callP_eq, callM_true, w2, w1, d1, d2, d3]
      refine loop1 (fun x st => st.T.length = 46 ∧ (x ≤ l.length) ∧ (allD l = allD (l.drop x)) ∧ getT st.T 33 = digA l ∧ getT st.T 34 = .int l.length ∧ getT st.T 35 = .int (x : Nat) ∧ st.S = [⟨0, [.bool false, digA l]⟩]) (fun x => l.length - x) (fun x => .bool (allD l)) (0) ?_ ?_
      case refine_2 => exact ⟨rfl, Nat.zero_le _, rfl, rfl, rfl, rfl, rfl⟩
      rintro i ⟨T, S', tk', n'⟩ ⟨hl, hi, hn, e33, e34, e35, eS⟩ IH
      subst eS
      obtain ⟨g, hg, hT⟩ := tab_of hl
      rw [hg] at e33 e34 e35
      subst hT
      clear hg hl
      by_cases hlt : i < l.length
      · have d1 : decide ((i : Int) < (l.length : Int)) = true := by simpa using hlt
        obtain ⟨x, hx⟩ := nth_some hlt
        have hx' := nth_dig hx
        have hw := wrap_add (i := i) (by omega)
        rw [nth_drop hx] at hn
        simp only [allD] at hn
        simp (maxSteps := 1000000) +contextual (disch := first | with_reducible assumption | exact ⟨rfl⟩ | exact ⟨rfl, rfl⟩ | (refine _root_.id ?_; kernel_rfl) | omega) only [evs, ext_mv, nth, put, putT, getT, binInt, binStr, binBool, aUn, outA, resA, mapO, resA1, oneOf, w1, w2, w3, bots, cond_true, cond_false, if_true, if_false, ite_true, ite_false, reduceIte, reduceCtorEq, implies_true, Nat.reduceAdd, Nat.reduceSub, AV.int, AV.bool, AV.str, Nat.reduceBEq, Nat.reduceEqDiff, Nat.reduceMul, Nat.reduceLT, Nat.reduceLeDiff, Int.reduceNeg, BEq.rfl, beq_self_eq_true, tabl, cellsOf, fldA, ldA, stA, entAt, partA, takeN, over, leafOk, Value.oneCell', idxA, nilA, cellsEq, fillA, elemsA, pure1, pure2, reps, chkA, tys, Try.results26, KX_draw, KX_drawQ, KX_tail, lastO_one, lastO_more, dropL_one, dropL_more, callP_eq, callM_true, e33, e34, e35, d1, digA, hx', hw]
        refine ⟨fun h1 => ?_, fun h1 => ⟨fun h2 => ?_, fun h2 => ?_⟩⟩
        · rw [hn, if_pos (by simp [h1])]
        · rw [hn, if_pos (by simp only [h1, h2]; rfl)]
        · exact IH (i + 1) _ (by first | omega | (simp only; omega)) ⟨rfl, hlt, by rw [hn, if_neg (by simp only [h1, h2]; simp)], (by first | rfl | simp only [getT, List.map_append, List.map_cons, List.map_nil, digC, digA]), (by first | rfl | simp only [getT, List.map_append, List.map_cons, List.map_nil, digC, digA]), (by first | rfl | simp only [getT, List.map_append, List.map_cons, List.map_nil, digC, digA]), (by first | rfl | simp only [getT, List.map_append, List.map_cons, List.map_nil, digC, digA])⟩
      · have d1 : decide ((i : Int) < (l.length : Int)) = false := by simpa using hlt
        have he : i = l.length := by omega
        rw [he, List.drop_length] at hn
        simp (maxSteps := 1000000) +contextual (disch := first | with_reducible assumption | exact ⟨rfl⟩ | exact ⟨rfl, rfl⟩ | (refine _root_.id ?_; kernel_rfl) | omega) only [evs, ext_mv, nth, put, putT, getT, binInt, binStr, binBool, aUn, outA, resA, mapO, resA1, oneOf, w1, w2, w3, bots, cond_true, cond_false, if_true, if_false, ite_true, ite_false, reduceIte, reduceCtorEq, implies_true, Nat.reduceAdd, Nat.reduceSub, AV.int, AV.bool, AV.str, Nat.reduceBEq, Nat.reduceEqDiff, Nat.reduceMul, Nat.reduceLT, Nat.reduceLeDiff, Int.reduceNeg, BEq.rfl, beq_self_eq_true, tabl, cellsOf, fldA, ldA, stA, entAt, partA, takeN, over, leafOk, Value.oneCell', idxA, nilA, cellsEq, fillA, elemsA, pure1, pure2, reps, chkA, tys, Try.results26, KX_draw, KX_drawQ, KX_tail, lastO_one, lastO_more, dropL_one, dropL_more, callP_eq, callM_true, e33, e34, e35, d1, digA]
        exact hn.symm
  · have d2 := len_eq_zero h2
    have d3 := len_gt_zero h2
    have d4 := last_idx h2 hlen
    have hp : l.length ≠ 0 := fun h' => h2 (List.length_eq_zero_iff.1 h')
    obtain ⟨x, hx⟩ := nth_some (l := l) (i := l.length - 1) (by omega)
    have hx' := nth_dig hx
    have hz : lastZ l = (x == 0) := by unfold lastZ; rw [hx]
    rw [hz]
    cases d5 : x == 0 with
    | true =>
      simp (maxSteps := 1000000) +contextual (disch := first | with_reducible assumption | exact ⟨rfl⟩ | exact ⟨rfl, rfl⟩ | (refine _root_.id ?_; kernel_rfl) | omega) only [evs, ext_mv, nth, put, putT, getT, binInt, binStr, binBool, aUn, outA, resA, mapO, resA1, oneOf, w1, w2, w3, bots, cond_true, cond_false, if_true, if_false, ite_true, ite_false, reduceIte, reduceCtorEq, implies_true, Nat.reduceAdd, Nat.reduceSub, AV.int, AV.bool, AV.str, Nat.reduceBEq, Nat.reduceEqDiff, Nat.reduceMul, Nat.reduceLT, Nat.reduceLeDiff, Int.reduceNeg, BEq.rfl, beq_self_eq_true, tabl, cellsOf, fldA, ldA, stA, entAt, partA, takeN, over, leafOk, Value.oneCell', idxA, nilA, cellsEq, fillA, elemsA, pure1, pure2, reps, chkA, tys, Try.results26, KX_draw, KX_drawQ, KX_tail, lastO_one, lastO_more, dropL_one, dropL_more, callP_eq, callM_true, w2, w1, d1, d2, d3, d4, hx', d5]
      all_goals simp
    | false =>
      simp only [h2, decide_false, Bool.false_and, Bool.or_false, Bool.false_eq_true, if_false]
      simp (maxSteps := 1000000) +contextual (disch := first | with_reducible assumption | exact ⟨rfl⟩ | exact ⟨rfl, rfl⟩ | (refine _root_.id ?_; kernel_rfl) | omega) only [evs, ext_mv, nth, put, putT, getT, binInt, binStr, binBool, aUn, outA, resA, mapO, resA1, oneOf, w1, w2, w3, bots, cond_true, cond_false, if_true, if_false, ite_true, ite_false, reduceIte, reduceCtorEq, implies_true, Nat.reduceAdd, Nat.reduceSub, AV.int, AV.bool, AV.str, Nat.reduceBEq, Nat.reduceEqDiff, Nat.reduceMul, Nat.reduceLT, Nat.reduceLeDiff, Int.reduceNeg, BEq.rfl, beq_self_eq_true, tabl, cellsOf, fldA, ldA, stA, entAt, partA, takeN, over, leafOk, Value.oneCell', idxA, nilA, cellsEq, fillA, elemsA, pure1, pure2, reps, chkA, tys, Try.results26, KX_draw, KX_drawQ, KX_tail, lastO_one, lastO_more, dropL_one, dropL_more, callP_eq, callM_true, w2, w1, d1, d2, d3, d4, hx', d5]
      refine loop1 (fun x st => st.T.length = 46 ∧ (x ≤ l.length) ∧ (allD l = allD (l.drop x)) ∧ getT st.T 33 = digA l ∧ getT st.T 34 = .int l.length ∧ getT st.T 35 = .int (x : Nat) ∧ st.S = [⟨0, [.bool neg, digA l]⟩]) (fun x => l.length - x) (fun x => .bool (allD l)) (0) ?_ ?_
      case refine_2 => exact ⟨rfl, Nat.zero_le _, rfl, rfl, rfl, rfl, rfl⟩
      rintro i ⟨T, S', tk', n'⟩ ⟨hl, hi, hn, e33, e34, e35, eS⟩ IH
      subst eS
      obtain ⟨g, hg, hT⟩ := tab_of hl
      rw [hg] at e33 e34 e35
      subst hT
      clear hg hl
      by_cases hlt : i < l.length
      · have d1 : decide ((i : Int) < (l.length : Int)) = true := by simpa using hlt
        obtain ⟨x, hx⟩ := nth_some hlt
        have hx' := nth_dig hx
        have hw := wrap_add (i := i) (by omega)
        rw [nth_drop hx] at hn
        simp only [allD] at hn
        simp (maxSteps := 1000000) +contextual (disch := first | with_reducible assumption | exact ⟨rfl⟩ | exact ⟨rfl, rfl⟩ | (refine _root_.id ?_; kernel_rfl) | omega) only [evs, ext_mv, nth, put, putT, getT, binInt, binStr, binBool, aUn, outA, resA, mapO, resA1, oneOf, w1, w2, w3, bots, cond_true, cond_false, if_true, if_false, ite_true, ite_false, reduceIte, reduceCtorEq, implies_true, Nat.reduceAdd, Nat.reduceSub, AV.int, AV.bool, AV.str, Nat.reduceBEq, Nat.reduceEqDiff, Nat.reduceMul, Nat.reduceLT, Nat.reduceLeDiff, Int.reduceNeg, BEq.rfl, beq_self_eq_true, tabl, cellsOf, fldA, ldA, stA, entAt, partA, takeN, over, leafOk, Value.oneCell', idxA, nilA, cellsEq, fillA, elemsA, pure1, pure2, reps, chkA, tys, Try.results26, KX_draw, KX_drawQ, KX_tail, lastO_one, lastO_more, dropL_one, dropL_more, callP_eq, callM_true, e33, e34, e35, d1, digA, hx', hw]
        refine ⟨fun h1 => ?_, fun h1 => ⟨fun h2 => ?_, fun h2 => ?_⟩⟩
        · rw [hn, if_pos (by simp [h1])]
        · rw [hn, if_pos (by simp only [h1, h2]; rfl)]
        · exact IH (i + 1) _ (by first | omega | (simp only; omega)) ⟨rfl, hlt, by rw [hn, if_neg (by simp only [h1, h2]; simp)], (by first | rfl | simp only [getT, List.map_append, List.map_cons, List.map_nil, digC, digA]), (by first | rfl | simp only [getT, List.map_append, List.map_cons, List.map_nil, digC, digA]), (by first | rfl | simp only [getT, List.map_append, List.map_cons, List.map_nil, digC, digA]), (by first | rfl | simp only [getT, List.map_append, List.map_cons, List.map_nil, digC, digA])⟩
      · have d1 : decide ((i : Int) < (l.length : Int)) = false := by simpa using hlt
        have he : i = l.length := by omega
        rw [he, List.drop_length] at hn
        simp (maxSteps := 1000000) +contextual (disch := first | with_reducible assumption | exact ⟨rfl⟩ | exact ⟨rfl, rfl⟩ | (refine _root_.id ?_; kernel_rfl) | omega) only [evs, ext_mv, nth, put, putT, getT, binInt, binStr, binBool, aUn, outA, resA, mapO, resA1, oneOf, w1, w2, w3, bots, cond_true, cond_false, if_true, if_false, ite_true, ite_false, reduceIte, reduceCtorEq, implies_true, Nat.reduceAdd, Nat.reduceSub, AV.int, AV.bool, AV.str, Nat.reduceBEq, Nat.reduceEqDiff, Nat.reduceMul, Nat.reduceLT, Nat.reduceLeDiff, Int.reduceNeg, BEq.rfl, beq_self_eq_true, tabl, cellsOf, fldA, ldA, stA, entAt, partA, takeN, over, leafOk, Value.oneCell', idxA, nilA, cellsEq, fillA, elemsA, pure1, pure2, reps, chkA, tys, Try.results26, KX_draw, KX_drawQ, KX_tail, lastO_one, lastO_more, dropL_one, dropL_more, callP_eq, callM_true, e33, e34, e35, d1, digA]
        exact hn.symm
theorem R02_Valid (neg : Bool) (l : List Int) (c : Cap) (hlen : l.length ≤ 1000000) : cL Try.prog 34 [.agg [.bool neg, .frz (l.map digC) c]] S tk k = some (.bool (validF neg l), S, tk, k) := by
  refine call_pure Try.func34 rfl rfl (by decide +kernel) (by decide +kernel) Try.ntmps34 rfl rfl _ _ _ rfl ?_; rw [RK_KX]
  by_cases h1 : 200 < l.length
  · have d1 : decide ((l.length : Int) > 200) = true := by simp; omega
    simp (maxSteps := 1000000) +contextual (disch := first | with_reducible assumption | exact ⟨rfl⟩ | exact ⟨rfl, rfl⟩ | (refine _root_.id ?_; kernel_rfl) | omega) only [evs, ext_mv, nth, put, putT, getT, binInt, binStr, binBool, aUn, outA, resA, mapO, resA1, oneOf, w1, w2, w3, bots, cond_true, cond_false, if_true, if_false, ite_true, ite_false, reduceIte, reduceCtorEq, implies_true, Nat.reduceAdd, Nat.reduceSub, AV.int, AV.bool, AV.str, Nat.reduceBEq, Nat.reduceEqDiff, Nat.reduceMul, Nat.reduceLT, Nat.reduceLeDiff, Int.reduceNeg, BEq.rfl, beq_self_eq_true, tabl, cellsOf, fldA, ldA, stA, entAt, partA, takeN, over, leafOk, Value.oneCell', idxA, nilA, cellsEq, fillA, elemsA, pure1, pure2, reps, chkA, tys, Try.results34, KX_draw, KX_drawQ, KX_tail, lastO_one, lastO_more, dropL_one, dropL_more, callP_eq, callM_true, w2, w1, d1]
    all_goals simp [validF, h1]
  have d1 : decide ((l.length : Int) > 200) = false := by simp; omega
  have hv : validF neg l = if ((decide (l = []) && neg) || lastZ l) = true then false else allD l := by simp [validF, h1]
  rw [hv]
  by_cases h2 : l = []
  · have d2 : (((0 : Nat) : Int) == 0) = true := rfl
    have d3 : decide (((0 : Nat) : Int) > 0) = false := rfl
    cases neg with
    | true =>
      subst h2
      simp (maxSteps := 1000000) +contextual (disch := first | with_reducible assumption | exact ⟨rfl⟩ | exact ⟨rfl, rfl⟩ | (refine _root_.id ?_; kernel_rfl) | omega) only [evs, ext_mv, nth, put, putT, getT, binInt, binStr, binBool, aUn, outA, resA, mapO, resA1, oneOf, w1, w2, w3, bots, cond_true, cond_false, if_true, if_false, ite_true, ite_false, reduceIte, reduceCtorEq, implies_true, Nat.reduceAdd, Nat.reduceSub, AV.int, AV.bool, AV.str, Nat.reduceBEq, Nat.reduceEqDiff, Nat.reduceMul, Nat.reduceLT, Nat.reduceLeDiff, Int.reduceNeg, BEq.rfl, beq_self_eq_true, tabl, cellsOf, fldA, ldA, stA, entAt, partA, takeN, over, leafOk, Value.oneCell', idxA, nilA, cellsEq, fillA, elemsA, pure1, pure2, reps, chkA, tys, Try.results34, KX_draw, KX_drawQ, KX_tail, lastO_one, lastO_more, dropL_one, dropL_more, callP_eq, callM_true, w2, w1, d1, d2, d3, List.map_nil]
      all_goals simp
    | false =>
      have hz : lastZ l = false := by subst h2; rfl
      rw [hz]
      simp only [Bool.and_false, Bool.or_false, Bool.false_eq_true, if_false]
      have hl0 : l.length = 0 := by rw [h2]; rfl
      have d2 : ((l.length : Int) == 0) = true := by rw [hl0]; rfl
      have d3 : decide ((l.length : Int) > 0) = false := by rw [hl0]; rfl
      simp (maxSteps := 1000000) +contextual (disch := first | with_reducible assumption | exact ⟨rfl⟩ | exact ⟨rfl, rfl⟩ | (refine _root_.id ?_; kernel_rfl) | omega) only [evs, ext_mv, nth, put, putT, getT, binInt, binStr, binBool, aUn, outA, resA, mapO, resA1, oneOf, w1, w2, w3, bots, cond_true, cond_false, if_true, if_false, ite_true, ite_false, reduceIte, reduceCtorEq, implies_true, Nat.reduceAdd, Nat.reduceSub, AV.int, AV.bool, AV.str, Nat.reduceBEq, Nat.reduceEqDiff, Nat.reduceMul, Nat.reduceLT, Nat.reduceLeDiff, Int.reduceNeg, BEq.rfl, beq_self_eq_true, tabl, cellsOf, fldA, ldA, stA, entAt, partA, takeN, over, leafOk, Value.oneCell', idxA, nilA, cellsEq, fillA, elemsA, pure1, pure2, reps, chkA, tys, Try.results34, KX_draw, KX_drawQ, KX_tail, lastO_one, lastO_more, dropL_one, dropL_more, callP_eq, callM_true, w2, w1, d1, d2, d3]
      refine loop1 (fun x st => st.T.length = 50 ∧ (x ≤ l.length) ∧ (allD l = allD (l.drop x)) ∧ getT st.T 1 = .ref 0 0 0 ∧ getT st.T 3 = .int l.length ∧ getT st.T 4 = .int (x : Nat) ∧ st.S = [⟨0, [.bool false, digA l]⟩]) (fun x => l.length - x) (fun x => .bool (allD l)) (0) ?_ ?_
      case refine_2 => exact ⟨rfl, Nat.zero_le _, rfl, rfl, rfl, rfl, rfl⟩
      rintro i ⟨T, S', tk', n'⟩ ⟨hl, hi, hn, e1, e3, e4, eS⟩ IH
      subst eS
      obtain ⟨g, hg, hT⟩ := tab_of hl
      rw [hg] at e1 e3 e4
      subst hT
      clear hg hl
      by_cases hlt : i < l.length
      · have d1 : decide ((i : Int) < (l.length : Int)) = true := by simpa using hlt
        obtain ⟨x, hx⟩ := nth_some hlt
        have hx' := nth_dig hx
        have hw := wrap_add (i := i) (by omega)
        rw [nth_drop hx] at hn
        simp only [allD] at hn
        simp (maxSteps := 1000000) +contextual (disch := first | with_reducible assumption | exact ⟨rfl⟩ | exact ⟨rfl, rfl⟩ | (refine _root_.id ?_; kernel_rfl) | omega) only [evs, ext_mv, nth, put, putT, getT, binInt, binStr, binBool, aUn, outA, resA, mapO, resA1, oneOf, w1, w2, w3, bots, cond_true, cond_false, if_true, if_false, ite_true, ite_false, reduceIte, reduceCtorEq, implies_true, Nat.reduceAdd, Nat.reduceSub, AV.int, AV.bool, AV.str, Nat.reduceBEq, Nat.reduceEqDiff, Nat.reduceMul, Nat.reduceLT, Nat.reduceLeDiff, Int.reduceNeg, BEq.rfl, beq_self_eq_true, tabl, cellsOf, fldA, ldA, stA, entAt, partA, takeN, over, leafOk, Value.oneCell', idxA, nilA, cellsEq, fillA, elemsA, pure1, pure2, reps, chkA, tys, Try.results34, KX_draw, KX_drawQ, KX_tail, lastO_one, lastO_more, dropL_one, dropL_more, callP_eq, callM_true, e1, e3, e4, d1, digA, hx', hw]
        refine ⟨fun h1 => ?_, fun h1 => ⟨fun h2 => ?_, fun h2 => ?_⟩⟩
        · rw [hn, if_pos (by simp [h1])]
        · rw [hn, if_pos (by simp only [h1, h2]; rfl)]
        · exact IH (i + 1) _ (by first | omega | (simp only; omega)) ⟨rfl, hlt, by rw [hn, if_neg (by simp only [h1, h2]; simp)], (by first | rfl | simp only [getT, List.map_append, List.map_cons, List.map_nil, digC, digA]), (by first | rfl | simp only [getT, List.map_append, List.map_cons, List.map_nil, digC, digA]), (by first | rfl | simp only [getT, List.map_append, List.map_cons, List.map_nil, digC, digA]), (by first | rfl | simp only [getT, List.map_append, List.map_cons, List.map_nil, digC, digA])⟩
      · have d1 : decide ((i : Int) < (l.length : Int)) = false := by simpa using hlt
        have he : i = l.length := by omega
        rw [he, List.drop_length] at hn
        simp (maxSteps := 1000000) +contextual (disch := first | with_reducible assumption | exact ⟨rfl⟩ | exact ⟨rfl, rfl⟩ | (refine _root_.id ?_; kernel_rfl) | omega) only [evs, ext_mv, nth, put, putT, getT, binInt, binStr, binBool, aUn, outA, resA, mapO, resA1, oneOf, w1, w2, w3, bots, cond_true, cond_false, if_true, if_false, ite_true, ite_false, reduceIte, reduceCtorEq, implies_true, Nat.reduceAdd, Nat.reduceSub, AV.int, AV.bool, AV.str, Nat.reduceBEq, Nat.reduceEqDiff, Nat.reduceMul, Nat.reduceLT, Nat.reduceLeDiff, Int.reduceNeg, BEq.rfl, beq_self_eq_true, tabl, cellsOf, fldA, ldA, stA, entAt, partA, takeN, over, leafOk, Value.oneCell', idxA, nilA, cellsEq, fillA, elemsA, pure1, pure2, reps, chkA, tys, Try.results34, KX_draw, KX_drawQ, KX_tail, lastO_one, lastO_more, dropL_one, dropL_more, callP_eq, callM_true, e1, e3, e4, d1, digA]
        exact hn.symm
  · have d2 := len_eq_zero h2
    have d3 := len_gt_zero h2
    have d4 := last_idx h2 hlen
    have hp : l.length ≠ 0 := fun h' => h2 (List.length_eq_zero_iff.1 h')
    obtain ⟨x, hx⟩ := nth_some (l := l) (i := l.length - 1) (by omega)
    have hx' := nth_dig hx
    have hz : lastZ l = (x == 0) := by unfold lastZ; rw [hx]
    rw [hz]
    cases d5 : x == 0 with
    | true =>
      simp (maxSteps := 1000000) +contextual (disch := first | with_reducible assumption | exact ⟨rfl⟩ | exact ⟨rfl, rfl⟩ | (refine _root_.id ?_; kernel_rfl) | omega) only [evs, ext_mv, nth, put, putT, getT, binInt, binStr, binBool, aUn, outA, resA, mapO, resA1, oneOf, w1, w2, w3, bots, cond_true, cond_false, if_true, if_false, ite_true, ite_false, reduceIte, reduceCtorEq, implies_true, Nat.reduceAdd, Nat.reduceSub, AV.int, AV.bool, AV.str, Nat.reduceBEq, Nat.reduceEqDiff, Nat.reduceMul, Nat.reduceLT, Nat.reduceLeDiff, Int.reduceNeg, BEq.rfl, beq_self_eq_true, tabl, cellsOf, fldA, ldA, stA, entAt, partA, takeN, over, leafOk, Value.oneCell', idxA, nilA, cellsEq, fillA, elemsA, pure1, pure2, reps, chkA, tys, Try.results34, KX_draw, KX_drawQ, KX_tail, lastO_one, lastO_more, dropL_one, dropL_more, callP_eq, callM_true, w2, w1, d1, d2, d3, d4, hx', d5]
      all_goals simp
    | false =>
      simp only [h2, decide_false, Bool.false_and, Bool.or_false, Bool.false_eq_true, if_false]
      simp (maxSteps := 1000000) +contextual (disch := first | with_reducible assumption | exact ⟨rfl⟩ | exact ⟨rfl, rfl⟩ | (refine _root_.id ?_; kernel_rfl) | omega) only [evs, ext_mv, nth, put, putT, getT, binInt, binStr, binBool, aUn, outA, resA, mapO, resA1, oneOf, w1, w2, w3, bots, cond_true, cond_false, if_true, if_false, ite_true, ite_false, reduceIte, reduceCtorEq, implies_true, Nat.reduceAdd, Nat.reduceSub, AV.int, AV.bool, AV.str, Nat.reduceBEq, Nat.reduceEqDiff, Nat.reduceMul, Nat.reduceLT, Nat.reduceLeDiff, Int.reduceNeg, BEq.rfl, beq_self_eq_true, tabl, cellsOf, fldA, ldA, stA, entAt, partA, takeN, over, leafOk, Value.oneCell', idxA, nilA, cellsEq, fillA, elemsA, pure1, pure2, reps, chkA, tys, Try.results34, KX_draw, KX_drawQ, KX_tail, lastO_one, lastO_more, dropL_one, dropL_more, callP_eq, callM_true, w2, w1, d1, d2, d3, d4, hx', d5]
      refine loop1 (fun x st => st.T.length = 50 ∧ (x ≤ l.length) ∧ (allD l = allD (l.drop x)) ∧ getT st.T 1 = .ref 0 0 0 ∧ getT st.T 3 = .int l.length ∧ getT st.T 4 = .int (x : Nat) ∧ st.S = [⟨0, [.bool neg, digA l]⟩]) (fun x => l.length - x) (fun x => .bool (allD l)) (0) ?_ ?_
      case refine_2 => exact ⟨rfl, Nat.zero_le _, rfl, rfl, rfl, rfl, rfl⟩
      rintro i ⟨T, S', tk', n'⟩ ⟨hl, hi, hn, e1, e3, e4, eS⟩ IH
      subst eS
      obtain ⟨g, hg, hT⟩ := tab_of hl
      rw [hg] at e1 e3 e4
      subst hT
      clear hg hl
      by_cases hlt : i < l.length
      · have d1 : decide ((i : Int) < (l.length : Int)) = true := by simpa using hlt
        obtain ⟨x, hx⟩ := nth_some hlt
        have hx' := nth_dig hx
        have hw := wrap_add (i := i) (by omega)
        rw [nth_drop hx] at hn
        simp only [allD] at hn
        simp (maxSteps := 1000000) +contextual (disch := first | with_reducible assumption | exact ⟨rfl⟩ | exact ⟨rfl, rfl⟩ | (refine _root_.id ?_; kernel_rfl) | omega) only [evs, ext_mv, nth, put, putT, getT, binInt, binStr, binBool, aUn, outA, resA, mapO, resA1, oneOf, w1, w2, w3, bots, cond_true, cond_false, if_true, if_false, ite_true, ite_false, reduceIte, reduceCtorEq, implies_true, Nat.reduceAdd, Nat.reduceSub, AV.int, AV.bool, AV.str, Nat.reduceBEq, Nat.reduceEqDiff, Nat.reduceMul, Nat.reduceLT, Nat.reduceLeDiff, Int.reduceNeg, BEq.rfl, beq_self_eq_true, tabl, cellsOf, fldA, ldA, stA, entAt, partA, takeN, over, leafOk, Value.oneCell', idxA, nilA, cellsEq, fillA, elemsA, pure1, pure2, reps, chkA, tys, Try.results34, KX_draw, KX_drawQ, KX_tail, lastO_one, lastO_more, dropL_one, dropL_more, callP_eq, callM_true, e1, e3, e4, d1, digA, hx', hw]
        refine ⟨fun h1 => ?_, fun h1 => ⟨fun h2 => ?_, fun h2 => ?_⟩⟩
        · rw [hn, if_pos (by simp [h1])]
        · rw [hn, if_pos (by simp only [h1, h2]; rfl)]
        · exact IH (i + 1) _ (by first | omega | (simp only; omega)) ⟨rfl, hlt, by rw [hn, if_neg (by simp only [h1, h2]; simp)], (by first | rfl | simp only [getT, List.map_append, List.map_cons, List.map_nil, digC, digA]), (by first | rfl | simp only [getT, List.map_append, List.map_cons, List.map_nil, digC, digA]), (by first | rfl | simp only [getT, List.map_append, List.map_cons, List.map_nil, digC, digA]), (by first | rfl | simp only [getT, List.map_append, List.map_cons, List.map_nil, digC, digA])⟩
      · have d1 : decide ((i : Int) < (l.length : Int)) = false := by simpa using hlt
        have he : i = l.length := by omega
        rw [he, List.drop_length] at hn
        simp (maxSteps := 1000000) +contextual (disch := first | with_reducible assumption | exact ⟨rfl⟩ | exact ⟨rfl, rfl⟩ | (refine _root_.id ?_; kernel_rfl) | omega) only [evs, ext_mv, nth, put, putT, getT, binInt, binStr, binBool, aUn, outA, resA, mapO, resA1, oneOf, w1, w2, w3, bots, cond_true, cond_false, if_true, if_false, ite_true, ite_false, reduceIte, reduceCtorEq, implies_true, Nat.reduceAdd, Nat.reduceSub, AV.int, AV.bool, AV.str, Nat.reduceBEq, Nat.reduceEqDiff, Nat.reduceMul, Nat.reduceLT, Nat.reduceLeDiff, Int.reduceNeg, BEq.rfl, beq_self_eq_true, tabl, cellsOf, fldA, ldA, stA, entAt, partA, takeN, over, leafOk, Value.oneCell', idxA, nilA, cellsEq, fillA, elemsA, pure1, pure2, reps, chkA, tys, Try.results34, KX_draw, KX_drawQ, KX_tail, lastO_one, lastO_more, dropL_one, dropL_more, callP_eq, callM_true, e1, e3, e4, d1, digA]
        exact hn.symm
theorem big_digits (neg : Bool) (l : List Int) (c : Cap) (hlen : l.length ≤ 1000000) : cL Try.prog 55 [.agg [.bool neg, .frz (l.map digC) c]] S tk k = some (digA (dig (V neg l).natAbs), S, tk, k) := by
  have hV := fun S tk k => big_Valid S tk k neg l .unk hlen
  rw [V_abs]
  refine call_pure Try.func55 rfl rfl (by decide +kernel) (by decide +kernel) Try.ntmps55 rfl rfl _ _ _ rfl ?_; rw [RK_KX]
  cases hv : validF neg l with
  | true =>
    simp (maxSteps := 1000000) +contextual (disch := first | with_reducible assumption | exact ⟨rfl⟩ | exact ⟨rfl, rfl⟩ | (refine _root_.id ?_; kernel_rfl) | omega) only [evs, ext_mv, nth, put, putT, getT, binInt, binStr, binBool, aUn, outA, resA, mapO, resA1, oneOf, w1, w2, w3, bots, cond_true, cond_false, if_true, if_false, ite_true, ite_false, reduceIte, reduceCtorEq, implies_true, Nat.reduceAdd, Nat.reduceSub, AV.int, AV.bool, AV.str, Nat.reduceBEq, Nat.reduceEqDiff, Nat.reduceMul, Nat.reduceLT, Nat.reduceLeDiff, Int.reduceNeg, BEq.rfl, beq_self_eq_true, tabl, cellsOf, fldA, ldA, stA, entAt, partA, takeN, over, leafOk, Value.oneCell', idxA, nilA, cellsEq, fillA, elemsA, pure1, pure2, reps, chkA, tys, Try.results55, KX_draw, KX_drawQ, KX_tail, lastO_one, lastO_more, dropL_one, dropL_more, callP_eq, callM_true, w2, w1, hV, hv]
    rfl
  | false =>
    simp (maxSteps := 1000000) +contextual (disch := first | with_reducible assumption | exact ⟨rfl⟩ | exact ⟨rfl, rfl⟩ | (refine _root_.id ?_; kernel_rfl) | omega) only [evs, ext_mv, nth, put, putT, getT, binInt, binStr, binBool, aUn, outA, resA, mapO, resA1, oneOf, w1, w2, w3, bots, cond_true, cond_false, if_true, if_false, ite_true, ite_false, reduceIte, reduceCtorEq, implies_true, Nat.reduceAdd, Nat.reduceSub, AV.int, AV.bool, AV.str, Nat.reduceBEq, Nat.reduceEqDiff, Nat.reduceMul, Nat.reduceLT, Nat.reduceLeDiff, Int.reduceNeg, BEq.rfl, beq_self_eq_true, tabl, cellsOf, fldA, ldA, stA, entAt, partA, takeN, over, leafOk, Value.oneCell', idxA, nilA, cellsEq, fillA, elemsA, pure1, pure2, reps, chkA, tys, Try.results55, KX_draw, KX_drawQ, KX_tail, lastO_one, lastO_more, dropL_one, dropL_more, callP_eq, callM_true, w2, w1, hV, hv]
    rfl
theorem R02_digits (neg : Bool) (l : List Int) (c : Cap) (hlen : l.length ≤ 1000000) : cL Try.prog 49 [.agg [.bool neg, .frz (l.map digC) c]] S tk k = some (digA (dig (V neg l).natAbs), S, tk, k) := by
  have hV := fun S tk k => R02_Valid S tk k neg l .unk hlen
  rw [V_abs]
  refine call_pure Try.func49 rfl rfl (by decide +kernel) (by decide +kernel) Try.ntmps49 rfl rfl _ _ _ rfl ?_; rw [RK_KX]
  cases hv : validF neg l with
  | true =>
    simp (maxSteps := 1000000) +contextual (disch := first | with_reducible assumption | exact ⟨rfl⟩ | exact ⟨rfl, rfl⟩ | (refine _root_.id ?_; kernel_rfl) | omega) only [evs, ext_mv, nth, put, putT, getT, binInt, binStr, binBool, aUn, outA, resA, mapO, resA1, oneOf, w1, w2, w3, bots, cond_true, cond_false, if_true, if_false, ite_true, ite_false, reduceIte, reduceCtorEq, implies_true, Nat.reduceAdd, Nat.reduceSub, AV.int, AV.bool, AV.str, Nat.reduceBEq, Nat.reduceEqDiff, Nat.reduceMul, Nat.reduceLT, Nat.reduceLeDiff, Int.reduceNeg, BEq.rfl, beq_self_eq_true, tabl, cellsOf, fldA, ldA, stA, entAt, partA, takeN, over, leafOk, Value.oneCell', idxA, nilA, cellsEq, fillA, elemsA, pure1, pure2, reps, chkA, tys, Try.results49, KX_draw, KX_drawQ, KX_tail, lastO_one, lastO_more, dropL_one, dropL_more, callP_eq, callM_true, w2, w1, hV, hv]
    rfl
  | false =>
    simp (maxSteps := 1000000) +contextual (disch := first | with_reducible assumption | exact ⟨rfl⟩ | exact ⟨rfl, rfl⟩ | (refine _root_.id ?_; kernel_rfl) | omega) only [evs, ext_mv, nth, put, putT, getT, binInt, binStr, binBool, aUn, outA, resA, mapO, resA1, oneOf, w1, w2, w3, bots, cond_true, cond_false, if_true, if_false, ite_true, ite_false, reduceIte, reduceCtorEq, implies_true, Nat.reduceAdd, Nat.reduceSub, AV.int, AV.bool, AV.str, Nat.reduceBEq, Nat.reduceEqDiff, Nat.reduceMul, Nat.reduceLT, Nat.reduceLeDiff, Int.reduceNeg, BEq.rfl, beq_self_eq_true, tabl, cellsOf, fldA, ldA, stA, entAt, partA, takeN, over, leafOk, Value.oneCell', idxA, nilA, cellsEq, fillA, elemsA, pure1, pure2, reps, chkA, tys, Try.results49, KX_draw, KX_drawQ, KX_tail, lastO_one, lastO_more, dropL_one, dropL_more, callP_eq, callM_true, w2, w1, hV, hv]
    rfl
theorem R02_negative (neg : Bool) (l : List Int) (c : Cap) (hlen : l.length ≤ 1000000) : cL Try.prog 47 [.agg [.bool neg, .frz (l.map digC) c]] S tk k = some (.bool (validF neg l && neg), S, tk, k) := by
  have hV := fun S tk k => R02_Valid S tk k neg l .unk hlen
  refine call_pure Try.func47 rfl rfl (by decide +kernel) (by decide +kernel) Try.ntmps47 rfl rfl _ _ _ rfl ?_; rw [RK_KX]
  cases hv : validF neg l with
  | true => simp (maxSteps := 1000000) +contextual (disch := first | with_reducible assumption | exact ⟨rfl⟩ | exact ⟨rfl, rfl⟩ | (refine _root_.id ?_; kernel_rfl) | omega) only [evs, ext_mv, nth, put, putT, getT, binInt, binStr, binBool, aUn, outA, resA, mapO, resA1, oneOf, w1, w2, w3, bots, cond_true, cond_false, if_true, if_false, ite_true, ite_false, reduceIte, reduceCtorEq, implies_true, Nat.reduceAdd, Nat.reduceSub, AV.int, AV.bool, AV.str, Nat.reduceBEq, Nat.reduceEqDiff, Nat.reduceMul, Nat.reduceLT, Nat.reduceLeDiff, Int.reduceNeg, BEq.rfl, beq_self_eq_true, tabl, cellsOf, fldA, ldA, stA, entAt, partA, takeN, over, leafOk, Value.oneCell', idxA, nilA, cellsEq, fillA, elemsA, pure1, pure2, reps, chkA, tys, Try.results47, KX_draw, KX_drawQ, KX_tail, lastO_one, lastO_more, dropL_one, dropL_more, callP_eq, callM_true, w2, w1, hV, hv]
  | false => simp (maxSteps := 1000000) +contextual (disch := first | with_reducible assumption | exact ⟨rfl⟩ | exact ⟨rfl, rfl⟩ | (refine _root_.id ?_; kernel_rfl) | omega) only [evs, ext_mv, nth, put, putT, getT, binInt, binStr, binBool, aUn, outA, resA, mapO, resA1, oneOf, w1, w2, w3, bots, cond_true, cond_false, if_true, if_false, ite_true, ite_false, reduceIte, reduceCtorEq, implies_true, Nat.reduceAdd, Nat.reduceSub, AV.int, AV.bool, AV.str, Nat.reduceBEq, Nat.reduceEqDiff, Nat.reduceMul, Nat.reduceLT, Nat.reduceLeDiff, Int.reduceNeg, BEq.rfl, beq_self_eq_true, tabl, cellsOf, fldA, ldA, stA, entAt, partA, takeN, over, leafOk, Value.oneCell', idxA, nilA, cellsEq, fillA, elemsA, pure1, pure2, reps, chkA, tys, Try.results47, KX_draw, KX_drawQ, KX_tail, lastO_one, lastO_more, dropL_one, dropL_more, callP_eq, callM_true, w2, w1, hV, hv]
end
end Go.Proofs.Ytmgbmbganlndkaa
/-
  Names and their order; increasing lists of names.
-/

namespace Go.Proofs.Ytmgbmbganlndkaa
open Go

theorem nloop_eq (s : ByteArray) : ∀ (n i : Nat) (r : List UInt8), s.size - i = n → ByteArray.toList.loop s i r = r.reverse ++ s.data.toList.drop i := by
  intro n
  induction n with
  | zero =>
    intro i r h
    rw [ByteArray.toList.loop, if_neg (by omega), List.drop_eq_nil_of_le (by simp; omega), List.append_nil]
  | succ n ih =>
    intro i r h
    have hi : i < s.data.size := by simp; omega
    rw [ByteArray.toList.loop, if_pos (by omega), ih (i + 1) _ (by omega), List.reverse_cons, List.append_assoc]
    congr 1
    have e : s.data.toList.drop i = s.data[i] :: s.data.toList.drop (i + 1) := by
      rw [← Array.getElem_toList hi, List.getElem_cons_drop]
    rw [e, List.singleton_append]
    congr 1
    show s.data[i]! = _
    rw [getElem!_pos s.data i hi]
def nm (s : ByteArray) : List UInt8 := s.data.toList
theorem nm_list (s : ByteArray) : s.toList = nm s := by rw [ByteArray.toList, nloop_eq s _ 0 [] rfl]; simp [nm]
theorem nm_inj {a b : ByteArray} (h : nm a = nm b) : a = b := by
  apply ByteArray.ext; exact Array.ext' h
theorem bytesLess_lt : ∀ (x y : List UInt8), Op.bytesLess x y = decide (x < y)
  | [], [] => by simp [Op.bytesLess]
  | a :: x, [] => by simp [Op.bytesLess]
  | [], b :: y => by simp [Op.bytesLess]
  | a :: x, b :: y => by
    rw [Op.bytesLess, bytesLess_lt x y]
    by_cases h1 : a < b
    · simp [h1, List.cons_lt_cons_iff]
    · by_cases h2 : a = b
      · subst h2; simp [List.cons_lt_cons_iff]
      · simp [h1, h2, List.cons_lt_cons_iff]
theorem sLt_nm (a b : ByteArray) : sLt a b = decide (nm a < nm b) := by
  unfold sLt; rw [nm_list, nm_list, bytesLess_lt]
theorem sEq_nm (a b : ByteArray) : sEq a b = decide (a = b) := by
  unfold sEq; rw [nm_list, nm_list]
  by_cases h : a = b
  · subst h; simp
  · have : nm a ≠ nm b := fun h' => h (nm_inj h')
    simp [h, this]
theorem nlt_trans {a b c : List UInt8} (h1 : a < b) (h2 : b < c) : a < c := List.lt_trans h1 h2
theorem nlt_irrefl (a : List UInt8) : ¬ a < a := List.lt_irrefl a
theorem nlt_tri (a b : ByteArray) : nm a < nm b ∨ a = b ∨ nm b < nm a := by
  by_cases h1 : nm a < nm b
  · exact .inl h1
  · by_cases h2 : nm b < nm a
    · exact .inr (.inr h2)
    · exact .inr (.inl (nm_inj (List.le_antisymm (List.not_lt.1 h2) (List.not_lt.1 h1))))
/-- each name is less than those behind it -/
def Inc (l : List ByteArray) : Prop := l.Pairwise fun a b => nm a < nm b
theorem mem_put (s x : ByteArray) : ∀ l : List ByteArray, x ∈ putS l s ↔ x = s ∨ x ∈ l
  | [] => by simp [putS]
  | y :: r => by
    rw [putS]
    split
    · rw [List.mem_cons, mem_put s x r, List.mem_cons]
      constructor
      · rintro (h | h | h) <;> simp [h]
      · rintro (h | h | h) <;> simp [h]
    · split
      · rename_i h
        rw [sEq_nm] at h
        have : y = s := by simpa using h
        subst this
        simp
      · simp [or_comm, or_left_comm]
theorem inc_put (s : ByteArray) : ∀ {l : List ByteArray}, Inc l → Inc (putS l s)
  | [], _ => by simp [putS, Inc]
  | y :: r, h => by
    have h0 := List.pairwise_cons.1 h
    rw [putS]
    split
    · rename_i h1
      rw [sLt_nm] at h1
      refine List.pairwise_cons.2 ⟨fun x hx => ?_, inc_put s h0.2⟩
      rcases (mem_put s x r).1 hx with rfl | hx
      · simpa using h1
      · exact h0.1 x hx
    · rename_i h1
      rw [sLt_nm] at h1
      split
      · exact h
      · rename_i h2
        rw [sEq_nm] at h2
        have h3 : nm s < nm y := by
          rcases nlt_tri s y with h | h | h
          · exact h
          · exact absurd (by simpa using h.symm) h2
          · exact absurd (by simpa using h) h1
        refine List.pairwise_cons.2 ⟨fun x hx => ?_, h⟩
        rcases List.mem_cons.1 hx with rfl | hx
        · exact h3
        · exact nlt_trans h3 (h0.1 x hx)
theorem len_put (s : ByteArray) : ∀ l : List ByteArray, (putS l s).length ≤ l.length + 1
  | [] => by simp [putS]
  | y :: r => by
    rw [putS]
    have := len_put s r
    split
    · simp; exact this
    · split <;> simp
theorem uni_snoc (l : List ByteArray) (s : ByteArray) : uniS (l ++ [s]) = putS (uniS l) s := by simp [uniS, List.foldl_append]
theorem uni_facts (l : List ByteArray) : Inc (uniS l) ∧ (∀ x, x ∈ uniS l ↔ x ∈ l) ∧ (uniS l).length ≤ l.length := by
  have key : ∀ (l acc : List ByteArray), Inc acc → Inc (l.foldl putS acc) ∧ (∀ x, x ∈ l.foldl putS acc ↔ x ∈ acc ∨ x ∈ l) ∧ (l.foldl putS acc).length ≤ acc.length + l.length := by
    intro l
    induction l with
    | nil => intro acc h; exact ⟨h, fun x => by simp, by simp⟩
    | cons s l ih =>
      intro acc h
      obtain ⟨h1, h2, h3⟩ := ih (putS acc s) (inc_put s h)
      refine ⟨h1, fun x => ?_, ?_⟩
      · rw [List.foldl_cons, h2 x, mem_put, List.mem_cons]
        constructor
        · rintro ((h | h) | h) <;> simp [h]
        · rintro (h | h | h) <;> simp [h]
      · have := len_put s acc
        simp only [List.foldl_cons, List.length_cons]; omega
  have := key l [] (by simp [Inc])
  exact ⟨this.1, fun x => by simpa [uniS] using this.2.1 x, by simpa [uniS] using this.2.2⟩
theorem putS_end {s : ByteArray} : ∀ {l : List ByteArray}, (∀ x ∈ l, nm x < nm s) → putS l s = l ++ [s]
  | [], _ => rfl
  | y :: r, h => by
    rw [putS, if_pos (by rw [sLt_nm]; simpa using h y (by simp)), putS_end fun x hx => h x (by simp [hx])]; rfl
/-- an increasing list is its own union -/
theorem fold_inc : ∀ (l acc : List ByteArray), Inc (acc ++ l) → l.foldl putS acc = acc ++ l
  | [], acc, _ => by simp
  | s :: l, acc, h => by
    have h1 : ∀ x ∈ acc, nm x < nm s := fun x hx => (List.pairwise_append.1 h).2.2 x hx s (by simp)
    rw [List.foldl_cons, putS_end h1, fold_inc l (acc ++ [s]) (by simpa using h)]; simp
theorem inc_eq : ∀ {l r : List ByteArray}, Inc l → Inc r → (∀ x, x ∈ l ↔ x ∈ r) → l = r
  | [], [], _, _, _ => rfl
  | [], y :: r, _, _, h => by have := (h y).2 (by simp); simp at this
  | x :: l, [], _, _, h => by have := (h x).1 (by simp); simp at this
  | x :: l, y :: r, h1, h2, h => by
    have a1 := List.pairwise_cons.1 h1
    have a2 := List.pairwise_cons.1 h2
    have hxy : x = y := by
      have m1 := (h x).1 (by simp)
      have m2 := (h y).2 (by simp)
      rcases List.mem_cons.1 m1 with e | m1
      · exact e
      · rcases List.mem_cons.1 m2 with e | m2
        · exact e.symm
        · exact absurd (nlt_trans (a1.1 y m2) (a2.1 x m1)) (nlt_irrefl _)
    subst hxy
    congr 1
    refine inc_eq a1.2 a2.2 fun z => ?_
    have hz := h z
    simp only [List.mem_cons] at hz
    constructor
    · intro hm
      rcases hz.1 (.inr hm) with e | hm'
      · subst e; exact absurd (a1.1 z hm) (nlt_irrefl _)
      · exact hm'
    · intro hm
      rcases hz.2 (.inr hm) with e | hm'
      · subst e; exact absurd (a2.1 z hm) (nlt_irrefl _)
      · exact hm'
end Go.Proofs.Ytmgbmbganlndkaa
