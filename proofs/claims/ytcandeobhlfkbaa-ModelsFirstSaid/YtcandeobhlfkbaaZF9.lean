/-
  Texts laid together: Ty, Plain, EvTold, EvSub, LGlob, E1, E2, E3, FName, MM1.
-/
import Derived.Test.YtcandeobhlfkbaaZF8
import Derived.Test.YtcandeobhlfkbaaChecked
import Derived.IntWalk
/-
  What the evaluator asks of the program's types.
-/


namespace Go.Proofs.Ytcandeobhlfkbaa
theorem mixed : Try.prog.follows .mixedOrders = true := by kernel_rfl
set_option maxRecDepth 100000 in
theorem tys :
    szOf Try.prog 1 = some 1 ∧
    aggT Try.prog 1 = some false ∧
    zeroOf Try.prog 1 = some [.prim .nilFunc] ∧
    isStr Try.prog 1 = false ∧
    szOf Try.prog 2 = some 1 ∧
    aggT Try.prog 2 = some false ∧
    zeroOf Try.prog 2 = some [.prim (.int .i64 0)] ∧
    intOfT Try.prog 2 = some .i64 ∧
    isStr Try.prog 2 = false ∧
    szOf Try.prog 3 = some 1 ∧
    aggT Try.prog 3 = some false ∧
    zeroOf Try.prog 3 = some [.prim (.int .i64 0)] ∧
    intOfT Try.prog 3 = some .i64 ∧
    isStr Try.prog 3 = false ∧
    szOf Try.prog 4 = some 1 ∧
    aggT Try.prog 4 = some false ∧
    zeroOf Try.prog 4 = some [.prim (.bool false)] ∧
    isStr Try.prog 4 = false ∧
    isBool Try.prog 4 = true ∧
    szOf Try.prog 5 = some 1 ∧
    aggT Try.prog 5 = some false ∧
    zeroOf Try.prog 5 = some [.prim (.int .u8 0)] ∧
    intOfT Try.prog 5 = some .u8 ∧
    isStr Try.prog 5 = false ∧
    szOf Try.prog 9 = some 1 ∧
    aggT Try.prog 9 = some false ∧
    zeroOf Try.prog 9 = some [.prim (.string ⟨#[]⟩)] ∧
    isStr Try.prog 9 = true ∧
    szOf Try.prog 12 = some 1 ∧
    aggT Try.prog 12 = some false ∧
    zeroOf Try.prog 12 = some [.prim (.int .u64 0)] ∧
    intOfT Try.prog 12 = some .u64 ∧
    isStr Try.prog 12 = false ∧
    szOf Try.prog 20 = some 1 ∧
    aggT Try.prog 20 = some false ∧
    zeroOf Try.prog 20 = some [.prim .nilIface] ∧
    isStr Try.prog 20 = false ∧
    szOf Try.prog 21 = some 1 ∧
    aggT Try.prog 21 = some false ∧
    zeroOf Try.prog 21 = some [.prim (.int .i32 0)] ∧
    intOfT Try.prog 21 = some .i32 ∧
    isStr Try.prog 21 = false ∧
    szOf Try.prog 22 = some 1 ∧
    aggT Try.prog 22 = some false ∧
    zeroOf Try.prog 22 = some [.frz [] .nilc] ∧
    elemOf Try.prog 22 = some 49 ∧
    apT Try.prog 22 = some 3 ∧
    isStr Try.prog 22 = false ∧
    szOf Try.prog 23 = some 1 ∧
    aggT Try.prog 23 = some false ∧
    zeroOf Try.prog 23 = some [.frz [] .nilc] ∧
    elemOf Try.prog 23 = some 39 ∧
    apT Try.prog 23 = some 2 ∧
    isStr Try.prog 23 = false ∧
    szOf Try.prog 24 = some 1 ∧
    aggT Try.prog 24 = some false ∧
    zeroOf Try.prog 24 = some [.frz [] .nilc] ∧
    elemOf Try.prog 24 = some 39 ∧
    apT Try.prog 24 = some 2 ∧
    isStr Try.prog 24 = false ∧
    szOf Try.prog 25 = some 1 ∧
    aggT Try.prog 25 = some false ∧
    zeroOf Try.prog 25 = some [.prim .nilFunc] ∧
    isStr Try.prog 25 = false ∧
    szOf Try.prog 26 = some 1 ∧
    aggT Try.prog 26 = some false ∧
    zeroOf Try.prog 26 = some [.prim .nilFunc] ∧
    isStr Try.prog 26 = false ∧
    szOf Try.prog 27 = some 1 ∧
    aggT Try.prog 27 = some false ∧
    zeroOf Try.prog 27 = some [.prim .nilFunc] ∧
    isStr Try.prog 27 = false ∧
    szOf Try.prog 28 = some 1 ∧
    aggT Try.prog 28 = some false ∧
    zeroOf Try.prog 28 = some [.prim .nilFunc] ∧
    isStr Try.prog 28 = false ∧
    szOf Try.prog 29 = some 1 ∧
    aggT Try.prog 29 = some false ∧
    zeroOf Try.prog 29 = some [.frz [] .nilc] ∧
    elemOf Try.prog 29 = some 3 ∧
    apT Try.prog 29 = some 1 ∧
    isStr Try.prog 29 = false ∧
    szOf Try.prog 30 = some 1 ∧
    aggT Try.prog 30 = some false ∧
    zeroOf Try.prog 30 = some [.prim .nilFunc] ∧
    isStr Try.prog 30 = false ∧
    szOf Try.prog 31 = some 1 ∧
    aggT Try.prog 31 = some false ∧
    zeroOf Try.prog 31 = some [.prim .nilFunc] ∧
    isStr Try.prog 31 = false ∧
    szOf Try.prog 32 = some 1 ∧
    aggT Try.prog 32 = some false ∧
    zeroOf Try.prog 32 = some [.prim .nilFunc] ∧
    isStr Try.prog 32 = false ∧
    szOf Try.prog 33 = some 1 ∧
    aggT Try.prog 33 = some false ∧
    zeroOf Try.prog 33 = some [.prim .nilFunc] ∧
    isStr Try.prog 33 = false ∧
    szOf Try.prog 35 = some 1 ∧
    aggT Try.prog 35 = some false ∧
    zeroOf Try.prog 35 = some [.prim .nilFunc] ∧
    isStr Try.prog 35 = false ∧
    szOf Try.prog 36 = some 1 ∧
    aggT Try.prog 36 = some false ∧
    zeroOf Try.prog 36 = some [.frz [] .nilc] ∧
    elemOf Try.prog 36 = some 9 ∧
    apT Try.prog 36 = some 1 ∧
    isStr Try.prog 36 = false ∧
    szOf Try.prog 37 = some 1 ∧
    aggT Try.prog 37 = some false ∧
    zeroOf Try.prog 37 = some [.prim .nilFunc] ∧
    isStr Try.prog 37 = false ∧
    szOf Try.prog 38 = some 2 ∧
    aggT Try.prog 38 = some true ∧
    zeroOf Try.prog 38 = some [.prim (.string ⟨#[]⟩), .prim (.int .i64 0)] ∧
    isStr Try.prog 38 = false ∧
    fieldOf Try.prog 38 0 = some (0, 1, false) ∧
    fieldOf Try.prog 38 1 = some (1, 1, false) ∧
    fieldsOf Try.prog 38 = some [(0, 1), (1, 1)] ∧
    flatK Try.prog 38 = some [2, 1] ∧
    szOf Try.prog 39 = some 2 ∧
    aggT Try.prog 39 = some true ∧
    zeroOf Try.prog 39 = some [.prim (.string ⟨#[]⟩), .prim (.int .i64 0)] ∧
    isStr Try.prog 39 = false ∧
    fieldOf Try.prog 39 0 = some (0, 1, false) ∧
    fieldOf Try.prog 39 1 = some (1, 1, false) ∧
    fieldsOf Try.prog 39 = some [(0, 1), (1, 1)] ∧
    flatK Try.prog 39 = some [2, 1] ∧
    szOf Try.prog 40 = some 1 ∧
    aggT Try.prog 40 = some false ∧
    zeroOf Try.prog 40 = some [.prim (.int .i64 0)] ∧
    intOfT Try.prog 40 = some .i64 ∧
    isStr Try.prog 40 = false ∧
    szOf Try.prog 41 = some 1 ∧
    aggT Try.prog 41 = some false ∧
    zeroOf Try.prog 41 = some [.prim .nilFunc] ∧
    isStr Try.prog 41 = false ∧
    szOf Try.prog 42 = some 1 ∧
    aggT Try.prog 42 = some false ∧
    zeroOf Try.prog 42 = some [.prim .nilFunc] ∧
    isStr Try.prog 42 = false ∧
    szOf Try.prog 43 = some 1 ∧
    aggT Try.prog 43 = some false ∧
    zeroOf Try.prog 43 = some [.prim .nilFunc] ∧
    isStr Try.prog 43 = false ∧
    szOf Try.prog 44 = some 1 ∧
    aggT Try.prog 44 = some false ∧
    zeroOf Try.prog 44 = some [.prim .nilFunc] ∧
    isStr Try.prog 44 = false ∧
    szOf Try.prog 45 = some 1 ∧
    aggT Try.prog 45 = some false ∧
    zeroOf Try.prog 45 = some [.prim .nilFunc] ∧
    isStr Try.prog 45 = false ∧
    szOf Try.prog 46 = some 2 ∧
    aggT Try.prog 46 = some true ∧
    zeroOf Try.prog 46 = some [.frz [] .nilc, .prim (.int .i64 0)] ∧
    isStr Try.prog 46 = false ∧
    fieldOf Try.prog 46 0 = some (0, 1, false) ∧
    fieldOf Try.prog 46 1 = some (1, 1, false) ∧
    fieldsOf Try.prog 46 = some [(0, 1), (1, 1)] ∧
    szOf Try.prog 47 = some 2 ∧
    aggT Try.prog 47 = some true ∧
    zeroOf Try.prog 47 = some [.frz [] .nilc, .prim (.int .i64 0)] ∧
    isStr Try.prog 47 = false ∧
    fieldOf Try.prog 47 0 = some (0, 1, false) ∧
    fieldOf Try.prog 47 1 = some (1, 1, false) ∧
    fieldsOf Try.prog 47 = some [(0, 1), (1, 1)] ∧
    szOf Try.prog 48 = some 3 ∧
    aggT Try.prog 48 = some true ∧
    zeroOf Try.prog 48 = some [.frz [] .nilc, .prim (.int .i64 0), .prim (.bool false)] ∧
    isStr Try.prog 48 = false ∧
    fieldOf Try.prog 48 0 = some (0, 2, true) ∧
    fieldOf Try.prog 48 1 = some (2, 1, false) ∧
    fieldsOf Try.prog 48 = some [(0, 2), (2, 1)] ∧
    szOf Try.prog 49 = some 3 ∧
    aggT Try.prog 49 = some true ∧
    zeroOf Try.prog 49 = some [.frz [] .nilc, .prim (.int .i64 0), .prim (.bool false)] ∧
    isStr Try.prog 49 = false ∧
    fieldOf Try.prog 49 0 = some (0, 2, true) ∧
    fieldOf Try.prog 49 1 = some (2, 1, false) ∧
    fieldsOf Try.prog 49 = some [(0, 2), (2, 1)] ∧
    szOf Try.prog 50 = some 1 ∧
    aggT Try.prog 50 = some false ∧
    zeroOf Try.prog 50 = some [.frz [] .nilc] ∧
    elemOf Try.prog 50 = some 24 ∧
    apT Try.prog 50 = some 1 ∧
    isStr Try.prog 50 = false ∧
    szOf Try.prog 51 = some 1 ∧
    aggT Try.prog 51 = some false ∧
    zeroOf Try.prog 51 = some [.prim .nilFunc] ∧
    isStr Try.prog 51 = false ∧
    szOf Try.prog 52 = some 1 ∧
    aggT Try.prog 52 = some false ∧
    zeroOf Try.prog 52 = some [.prim .nilFunc] ∧
    isStr Try.prog 52 = false ∧
    szOf Try.prog 54 = some 1 ∧
    aggT Try.prog 54 = some false ∧
    zeroOf Try.prog 54 = some [.prim .nilFunc] ∧
    isStr Try.prog 54 = false ∧
    szOf Try.prog 55 = some 1 ∧
    aggT Try.prog 55 = some false ∧
    zeroOf Try.prog 55 = some [.prim (.int .u64 0)] ∧
    intOfT Try.prog 55 = some .u64 ∧
    isStr Try.prog 55 = false ∧
    szOf Try.prog 56 = some 1 ∧
    aggT Try.prog 56 = some false ∧
    zeroOf Try.prog 56 = some [.prim .nilFunc] ∧
    isStr Try.prog 56 = false ∧
    szOf Try.prog 57 = some 1 ∧
    aggT Try.prog 57 = some false ∧
    zeroOf Try.prog 57 = some [.prim .nilFunc] ∧
    isStr Try.prog 57 = false ∧
    szOf Try.prog 58 = some 1 ∧
    aggT Try.prog 58 = some false ∧
    zeroOf Try.prog 58 = some [.prim .nilFunc] ∧
    isStr Try.prog 58 = false ∧
    szOf Try.prog 59 = some 1 ∧
    aggT Try.prog 59 = some false ∧
    zeroOf Try.prog 59 = some [.prim .nilFunc] ∧
    isStr Try.prog 59 = false ∧
    szOf Try.prog 61 = some 1 ∧
    aggT Try.prog 61 = some false ∧
    zeroOf Try.prog 61 = some [.prim .nilFunc] ∧
    isStr Try.prog 61 = false ∧
    szOf Try.prog 62 = some 1 ∧
    aggT Try.prog 62 = some false ∧
    zeroOf Try.prog 62 = some [.prim .nilFunc] ∧
    isStr Try.prog 62 = false ∧
    szOf Try.prog 63 = some 1 ∧
    aggT Try.prog 63 = some false ∧
    zeroOf Try.prog 63 = some [.prim .nilFunc] ∧
    isStr Try.prog 63 = false ∧
    szOf Try.prog 64 = some 1 ∧
    aggT Try.prog 64 = some false ∧
    zeroOf Try.prog 64 = some [.prim .nilFunc] ∧
    isStr Try.prog 64 = false ∧
    szOf Try.prog 65 = some 1 ∧
    aggT Try.prog 65 = some false ∧
    zeroOf Try.prog 65 = some [.prim .nilFunc] ∧
    isStr Try.prog 65 = false ∧
    szOf Try.prog 66 = some 1 ∧
    aggT Try.prog 66 = some false ∧
    zeroOf Try.prog 66 = some [.prim .nilFunc] ∧
    isStr Try.prog 66 = false ∧
    szOf Try.prog 67 = some 1 ∧
    aggT Try.prog 67 = some false ∧
    zeroOf Try.prog 67 = some [.prim .nilFunc] ∧
    isStr Try.prog 67 = false ∧
    szOf Try.prog 68 = some 1 ∧
    aggT Try.prog 68 = some false ∧
    zeroOf Try.prog 68 = some [.prim .nilFunc] ∧
    isStr Try.prog 68 = false ∧
    szOf Try.prog 69 = some 1 ∧
    aggT Try.prog 69 = some false ∧
    zeroOf Try.prog 69 = some [.prim .nilFunc] ∧
    isStr Try.prog 69 = false ∧
    szOf Try.prog 70 = some 1 ∧
    aggT Try.prog 70 = some false ∧
    zeroOf Try.prog 70 = some [.prim .nilFunc] ∧
    isStr Try.prog 70 = false ∧
    szOf Try.prog 71 = some 1 ∧
    aggT Try.prog 71 = some false ∧
    zeroOf Try.prog 71 = some [.prim .nilFunc] ∧
    isStr Try.prog 71 = false ∧
    szOf Try.prog 72 = some 1 ∧
    aggT Try.prog 72 = some false ∧
    zeroOf Try.prog 72 = some [.prim .nilFunc] ∧
    isStr Try.prog 72 = false ∧
    szOf Try.prog 73 = some 1 ∧
    aggT Try.prog 73 = some false ∧
    zeroOf Try.prog 73 = some [.prim .nilFunc] ∧
    isStr Try.prog 73 = false ∧
    szOf Try.prog 74 = some 1 ∧
    aggT Try.prog 74 = some false ∧
    zeroOf Try.prog 74 = some [.prim .nilFunc] ∧
    isStr Try.prog 74 = false ∧
    szOf Try.prog 75 = some 1 ∧
    aggT Try.prog 75 = some false ∧
    zeroOf Try.prog 75 = some [.prim .nilFunc] ∧
    isStr Try.prog 75 = false ∧
    szOf Try.prog 76 = some 1 ∧
    aggT Try.prog 76 = some false ∧
    zeroOf Try.prog 76 = some [.prim .nilFunc] ∧
    isStr Try.prog 76 = false ∧
    szOf Try.prog 77 = some 1 ∧
    aggT Try.prog 77 = some false ∧
    zeroOf Try.prog 77 = some [.prim .nilFunc] ∧
    isStr Try.prog 77 = false ∧
    szOf Try.prog 78 = some 1 ∧
    aggT Try.prog 78 = some false ∧
    zeroOf Try.prog 78 = some [.prim .nilFunc] ∧
    isStr Try.prog 78 = false ∧
    szOf Try.prog 79 = some 1 ∧
    aggT Try.prog 79 = some false ∧
    zeroOf Try.prog 79 = some [.prim .nilFunc] ∧
    isStr Try.prog 79 = false ∧
    szOf Try.prog 80 = some 1 ∧
    aggT Try.prog 80 = some false ∧
    zeroOf Try.prog 80 = some [.prim .nilFunc] ∧
    isStr Try.prog 80 = false ∧
    szOf Try.prog 81 = some 1 ∧
    aggT Try.prog 81 = some false ∧
    zeroOf Try.prog 81 = some [.prim .nilFunc] ∧
    isStr Try.prog 81 = false ∧
    szOf Try.prog 82 = some 1 ∧
    aggT Try.prog 82 = some false ∧
    zeroOf Try.prog 82 = some [.prim (.int .u64 0)] ∧
    intOfT Try.prog 82 = some .u64 ∧
    isStr Try.prog 82 = false ∧
    szOf Try.prog 83 = some 1 ∧
    aggT Try.prog 83 = some false ∧
    zeroOf Try.prog 83 = some [.prim .nilFunc] ∧
    isStr Try.prog 83 = false ∧
    szOf Try.prog 84 = some 1 ∧
    aggT Try.prog 84 = some false ∧
    zeroOf Try.prog 84 = some [.prim (.int .i64 0)] ∧
    intOfT Try.prog 84 = some .i64 ∧
    isStr Try.prog 84 = false ∧
    szOf Try.prog 86 = some 1 ∧
    aggT Try.prog 86 = some false ∧
    zeroOf Try.prog 86 = some [.prim .nilFunc] ∧
    isStr Try.prog 86 = false ∧
    szOf Try.prog 87 = some 1 ∧
    aggT Try.prog 87 = some false ∧
    zeroOf Try.prog 87 = some [.prim .nilFunc] ∧
    isStr Try.prog 87 = false ∧
    szOf Try.prog 88 = some 1 ∧
    aggT Try.prog 88 = some false ∧
    zeroOf Try.prog 88 = some [.prim .nilFunc] ∧
    isStr Try.prog 88 = false ∧
    szOf Try.prog 89 = some 1 ∧
    aggT Try.prog 89 = some false ∧
    zeroOf Try.prog 89 = some [.prim .nilFunc] ∧
    isStr Try.prog 89 = false ∧
    szOf Try.prog 90 = some 1 ∧
    aggT Try.prog 90 = some false ∧
    zeroOf Try.prog 90 = some [.prim .nilFunc] ∧
    isStr Try.prog 90 = false ∧
    szOf Try.prog 91 = some 1 ∧
    aggT Try.prog 91 = some false ∧
    zeroOf Try.prog 91 = some [.prim .nilFunc] ∧
    isStr Try.prog 91 = false ∧
    szOf Try.prog 92 = some 1 ∧
    aggT Try.prog 92 = some false ∧
    zeroOf Try.prog 92 = some [.prim (.int .u32 0)] ∧
    intOfT Try.prog 92 = some .u32 ∧
    isStr Try.prog 92 = false ∧
    szOf Try.prog 93 = some 1 ∧
    aggT Try.prog 93 = some false ∧
    zeroOf Try.prog 93 = some [.prim .nilFunc] ∧
    isStr Try.prog 93 = false ∧
    szOf Try.prog 94 = some 1 ∧
    aggT Try.prog 94 = some false ∧
    zeroOf Try.prog 94 = some [.prim (.int .u64 0)] ∧
    intOfT Try.prog 94 = some .u64 ∧
    isStr Try.prog 94 = false ∧
    szOf Try.prog 95 = some 1 ∧
    aggT Try.prog 95 = some false ∧
    zeroOf Try.prog 95 = some [.prim .nilFunc] ∧
    isStr Try.prog 95 = false ∧
    szOf Try.prog 96 = some 1 ∧
    aggT Try.prog 96 = some false ∧
    zeroOf Try.prog 96 = some [.prim .nilFunc] ∧
    isStr Try.prog 96 = false ∧
    szOf Try.prog 97 = some 1 ∧
    aggT Try.prog 97 = some false ∧
    zeroOf Try.prog 97 = some [.prim .nilFunc] ∧
    isStr Try.prog 97 = false ∧
    szOf Try.prog 98 = some 1 ∧
    aggT Try.prog 98 = some false ∧
    zeroOf Try.prog 98 = some [.prim (.pointer none)] ∧
    isStr Try.prog 98 = false ∧
    szOf Try.prog 99 = some 1 ∧
    aggT Try.prog 99 = some false ∧
    zeroOf Try.prog 99 = some [.prim .nilFunc] ∧
    isStr Try.prog 99 = false ∧
    szOf Try.prog 100 = some 1 ∧
    aggT Try.prog 100 = some false ∧
    zeroOf Try.prog 100 = some [.prim .nilFunc] ∧
    isStr Try.prog 100 = false ∧
    szOf Try.prog 101 = some 1 ∧
    aggT Try.prog 101 = some false ∧
    zeroOf Try.prog 101 = some [.prim (.pointer none)] ∧
    isStr Try.prog 101 = false ∧
    szOf Try.prog 103 = some 1 ∧
    aggT Try.prog 103 = some false ∧
    zeroOf Try.prog 103 = some [.prim .nilFunc] ∧
    isStr Try.prog 103 = false ∧
    szOf Try.prog 104 = some 1 ∧
    aggT Try.prog 104 = some false ∧
    zeroOf Try.prog 104 = some [.prim .nilFunc] ∧
    isStr Try.prog 104 = false ∧
    szOf Try.prog 110 = some 1 ∧
    aggT Try.prog 110 = some false ∧
    zeroOf Try.prog 110 = some [.prim .nilFunc] ∧
    isStr Try.prog 110 = false ∧
    szOf Try.prog 113 = some 1 ∧
    aggT Try.prog 113 = some false ∧
    zeroOf Try.prog 113 = some [.prim .nilFunc] ∧
    isStr Try.prog 113 = false ∧
    szOf Try.prog 114 = some 1 ∧
    aggT Try.prog 114 = some false ∧
    zeroOf Try.prog 114 = some [.prim (.pointer none)] ∧
    isStr Try.prog 114 = false :=
  ⟨by kernel_rfl, by kernel_rfl, by kernel_rfl, by kernel_rfl, by kernel_rfl, by kernel_rfl, by kernel_rfl, by kernel_rfl, by kernel_rfl, by kernel_rfl, by kernel_rfl, by kernel_rfl, by kernel_rfl, by kernel_rfl, by kernel_rfl, by kernel_rfl, by kernel_rfl, by kernel_rfl, by kernel_rfl, by kernel_rfl, by kernel_rfl, by kernel_rfl, by kernel_rfl, by kernel_rfl, by kernel_rfl, by kernel_rfl, by kernel_rfl, by kernel_rfl, by kernel_rfl, by kernel_rfl, by kernel_rfl, by kernel_rfl, by kernel_rfl, by kernel_rfl, by kernel_rfl, by kernel_rfl, by kernel_rfl, by kernel_rfl, by kernel_rfl, by kernel_rfl, by kernel_rfl, by kernel_rfl, by kernel_rfl, by kernel_rfl, by kernel_rfl, by kernel_rfl, by kernel_rfl, by kernel_rfl, by kernel_rfl, by kernel_rfl, by kernel_rfl, by kernel_rfl, by kernel_rfl, by kernel_rfl, by kernel_rfl, by kernel_rfl, by kernel_rfl, by kernel_rfl, by kernel_rfl, by kernel_rfl, by kernel_rfl, by kernel_rfl, by kernel_rfl, by kernel_rfl, by kernel_rfl, by kernel_rfl, by kernel_rfl, by kernel_rfl, by kernel_rfl, by kernel_rfl, by kernel_rfl, by kernel_rfl, by kernel_rfl, by kernel_rfl, by kernel_rfl, by kernel_rfl, by kernel_rfl, by kernel_rfl, by kernel_rfl, by kernel_rfl, by kernel_rfl, by kernel_rfl, by kernel_rfl, by kernel_rfl, by kernel_rfl, by kernel_rfl, by kernel_rfl, by kernel_rfl, by kernel_rfl, by kernel_rfl, by kernel_rfl, by kernel_rfl, by kernel_rfl, by kernel_rfl, by kernel_rfl, by kernel_rfl, by kernel_rfl, by kernel_rfl, by kernel_rfl, by kernel_rfl, by kernel_rfl, by kernel_rfl, by kernel_rfl, by kernel_rfl, by kernel_rfl, by kernel_rfl, by kernel_rfl, by kernel_rfl, by kernel_rfl, by kernel_rfl, by kernel_rfl, by kernel_rfl, by kernel_rfl, by kernel_rfl, by kernel_rfl, by kernel_rfl, by kernel_rfl, by kernel_rfl, by kernel_rfl, by kernel_rfl, by kernel_rfl, by kernel_rfl, by kernel_rfl, by kernel_rfl, by kernel_rfl, by kernel_rfl, by kernel_rfl, by kernel_rfl, by kernel_rfl, by kernel_rfl, by kernel_rfl, by kernel_rfl, by kernel_rfl, by kernel_rfl, by kernel_rfl, by kernel_rfl, by kernel_rfl, by kernel_rfl, by kernel_rfl, by kernel_rfl, by kernel_rfl, by kernel_rfl, by kernel_rfl, by kernel_rfl, by kernel_rfl, by kernel_rfl, by kernel_rfl, by kernel_rfl, by kernel_rfl, by kernel_rfl, by kernel_rfl, by kernel_rfl, by kernel_rfl, by kernel_rfl, by kernel_rfl, by kernel_rfl, by kernel_rfl, by kernel_rfl, by kernel_rfl, by kernel_rfl, by kernel_rfl, by kernel_rfl, by kernel_rfl, by kernel_rfl, by kernel_rfl, by kernel_rfl, by kernel_rfl, by kernel_rfl, by kernel_rfl, by kernel_rfl, by kernel_rfl, by kernel_rfl, by kernel_rfl, by kernel_rfl, by kernel_rfl, by kernel_rfl, by kernel_rfl, by kernel_rfl, by kernel_rfl, by kernel_rfl, by kernel_rfl, by kernel_rfl, by kernel_rfl, by kernel_rfl, by kernel_rfl, by kernel_rfl, by kernel_rfl, by kernel_rfl, by kernel_rfl, by kernel_rfl, by kernel_rfl, by kernel_rfl, by kernel_rfl, by kernel_rfl, by kernel_rfl, by kernel_rfl, by kernel_rfl, by kernel_rfl, by kernel_rfl, by kernel_rfl, by kernel_rfl, by kernel_rfl, by kernel_rfl, by kernel_rfl, by kernel_rfl, by kernel_rfl, by kernel_rfl, by kernel_rfl, by kernel_rfl, by kernel_rfl, by kernel_rfl, by kernel_rfl, by kernel_rfl, by kernel_rfl, by kernel_rfl, by kernel_rfl, by kernel_rfl, by kernel_rfl, by kernel_rfl, by kernel_rfl, by kernel_rfl, by kernel_rfl, by kernel_rfl, by kernel_rfl, by kernel_rfl, by kernel_rfl, by kernel_rfl, by kernel_rfl, by kernel_rfl, by kernel_rfl, by kernel_rfl, by kernel_rfl, by kernel_rfl, by kernel_rfl, by kernel_rfl, by kernel_rfl, by kernel_rfl, by kernel_rfl, by kernel_rfl, by kernel_rfl, by kernel_rfl, by kernel_rfl, by kernel_rfl, by kernel_rfl, by kernel_rfl, by kernel_rfl, by kernel_rfl, by kernel_rfl, by kernel_rfl, by kernel_rfl, by kernel_rfl, by kernel_rfl, by kernel_rfl, by kernel_rfl, by kernel_rfl, by kernel_rfl, by kernel_rfl, by kernel_rfl, by kernel_rfl, by kernel_rfl, by kernel_rfl, by kernel_rfl, by kernel_rfl, by kernel_rfl, by kernel_rfl, by kernel_rfl, by kernel_rfl, by kernel_rfl, by kernel_rfl, by kernel_rfl, by kernel_rfl, by kernel_rfl, by kernel_rfl, by kernel_rfl, by kernel_rfl, by kernel_rfl, by kernel_rfl, by kernel_rfl, by kernel_rfl, by kernel_rfl, by kernel_rfl, by kernel_rfl, by kernel_rfl, by kernel_rfl, by kernel_rfl, by kernel_rfl, by kernel_rfl, by kernel_rfl, by kernel_rfl, by kernel_rfl, by kernel_rfl, by kernel_rfl, by kernel_rfl, by kernel_rfl, by kernel_rfl, by kernel_rfl, by kernel_rfl, by kernel_rfl, by kernel_rfl, by kernel_rfl, by kernel_rfl, by kernel_rfl, by kernel_rfl, by kernel_rfl, by kernel_rfl, by kernel_rfl, by kernel_rfl, by kernel_rfl, by kernel_rfl, by kernel_rfl, by kernel_rfl, by kernel_rfl, by kernel_rfl, by kernel_rfl, by kernel_rfl, by kernel_rfl, by kernel_rfl, by kernel_rfl, by kernel_rfl, by kernel_rfl, by kernel_rfl, by kernel_rfl, by kernel_rfl, by kernel_rfl, by kernel_rfl, by kernel_rfl, by kernel_rfl, by kernel_rfl, by kernel_rfl, by kernel_rfl, by kernel_rfl, by kernel_rfl, by kernel_rfl, by kernel_rfl, by kernel_rfl, by kernel_rfl, by kernel_rfl, by kernel_rfl, by kernel_rfl, by kernel_rfl, by kernel_rfl, by kernel_rfl, by kernel_rfl, by kernel_rfl, by kernel_rfl, by kernel_rfl, by kernel_rfl, by kernel_rfl, by kernel_rfl, by kernel_rfl, by kernel_rfl, by kernel_rfl, by kernel_rfl, by kernel_rfl, by kernel_rfl, by kernel_rfl, by kernel_rfl, by kernel_rfl, by kernel_rfl, by kernel_rfl, by kernel_rfl, by kernel_rfl, by kernel_rfl, by kernel_rfl, by kernel_rfl, by kernel_rfl, by kernel_rfl, by kernel_rfl, by kernel_rfl, by kernel_rfl, by kernel_rfl, by kernel_rfl, by kernel_rfl, by kernel_rfl, by kernel_rfl, by kernel_rfl, by kernel_rfl, by kernel_rfl, by kernel_rfl, by kernel_rfl, by kernel_rfl, by kernel_rfl, by kernel_rfl, by kernel_rfl, by kernel_rfl, by kernel_rfl, by kernel_rfl, by kernel_rfl, by kernel_rfl, by kernel_rfl, by kernel_rfl, by kernel_rfl, by kernel_rfl, by kernel_rfl, by kernel_rfl, by kernel_rfl, by kernel_rfl, by kernel_rfl, by kernel_rfl, by kernel_rfl, by kernel_rfl, by kernel_rfl, by kernel_rfl, by kernel_rfl⟩
end Go.Proofs.Ytcandeobhlfkbaa
/-
  Plain functions and laws on integers: no program in sight.
-/
namespace Go.Proofs.Ytcandeobhlfkbaa

/-- in bounds -/
def inB (n : Int) : Bool := decide (-1000000000000 ≤ n ∧ n ≤ 1000000000000)
theorem inB_true {n : Int} : inB n = true ↔ -1000000000000 ≤ n ∧ n ≤ 1000000000000 := by simp [inB]
theorem inB_false {n : Int} : inB n = false ↔ ¬ (-1000000000000 ≤ n ∧ n ≤ 1000000000000) := by simp [inB]

/-- the value of a checked operation -/
def chk (ok : Bool) (n : Int) : Int × Bool := if ok && inB n then (n, true) else (0, false)
def addS (a b : Int) : Int × Bool := chk (inB a && inB b) (a + b)
def subS (a b : Int) : Int × Bool := chk (inB a && inB b) (a - b)
def mulS (a b : Int) : Int × Bool := chk (inB a && inB b) (a * b)
/-- the quotient rounded down, of a number by one that is not 0 -/
def divS (a b : Int) : Int × Bool := if inB a && inB b && !(b == 0) then (a.fdiv b, true) else (0, false)
def absS (n : Int) : Int := if n = -9223372036854775808 then 1000000000000 else if 0 ≤ n then n else -n
def gcdS (a b : Int) : Int := (Int.gcd (absS a) (absS b) : Int)

theorem absS_in {n : Int} (h : inB n = true) : absS n = n.natAbs := by
  rw [inB_true] at h; unfold absS; split
  · omega
  · split <;> omega

theorem mul_test (a b : Int) (h : a ≠ 0) :
    (decide (1000000000000 / (a.natAbs : Int) < (b.natAbs : Int)) = false ∧ -1000000000000 ≤ a * b ∧ a * b ≤ 1000000000000 ∧ inB (a * b) = true) ∨
    (decide (1000000000000 / (a.natAbs : Int) < (b.natAbs : Int)) = true ∧ inB (a * b) = false) := by
  have hp : 0 < (a.natAbs : Int) := by omega
  have hab : ((a * b).natAbs : Int) = (b.natAbs : Int) * a.natAbs := by rw [Int.natAbs_mul]; push_cast; rw [Int.mul_comm]
  by_cases hc : 1000000000000 / (a.natAbs : Int) < (b.natAbs : Int)
  · right
    refine ⟨by simpa using hc, ?_⟩
    rw [Int.ediv_lt_iff_lt_mul hp] at hc
    rw [inB_false]
    omega
  · left
    have hd := hc
    rw [Int.ediv_lt_iff_lt_mul hp] at hc
    rw [inB_true]
    refine ⟨by simpa using hd, ?_⟩
    omega

/-- at most 40 coefficients with names of at most 500 bytes -/
def smallS (cs : List (ByteArray × Int)) : Bool := decide (cs.length ≤ 40 ∧ ∀ c ∈ cs, ¬ 500 < c.1.size)
theorem smallS_long {cs : List (ByteArray × Int)} {len : Nat} (hl : cs.length = len) (h : 40 < len) : false = smallS cs := by
  symm; unfold smallS; rw [decide_eq_false_iff_not]; omega
theorem smallS_name {cs : List (ByteArray × Int)} {n : Nat} {c : ByteArray × Int} (hn : cs[n]? = some c) (h : 500 < c.1.size) : false = smallS cs := by
  symm; unfold smallS; rw [decide_eq_false_iff_not]; intro hh
  exact hh.2 c (List.mem_of_getElem? hn) h
theorem smallS_true {cs : List (ByteArray × Int)} {len n : Nat} (hl : cs.length = len) (hn : len ≤ n) (h4 : n ≤ 40) (h : ∀ j, j < n → ∀ c, cs[j]? = some c → ¬ 500 < c.1.size) : true = smallS cs := by
  symm; unfold smallS; rw [decide_eq_true_iff]
  refine ⟨by omega, fun c hc => ?_⟩
  obtain ⟨j, hj⟩ := List.getElem?_of_mem hc
  exact h j (by have := (List.getElem?_eq_some_iff.1 hj).1; omega) c hj
theorem smallS_iff {cs : List (ByteArray × Int)} : smallS cs = true ↔ cs.length ≤ 40 ∧ ∀ c ∈ cs, ¬ 500 < c.1.size := by simp [smallS]

def sameS (x : List (ByteArray × Int)) (k : Int) (y : List (ByteArray × Int)) (l : Int) : Bool := decide (x = y ∧ k = l)
theorem sameS_len {x y : List (ByteArray × Int)} {k l : Int} (h : x.length ≠ y.length) : false = sameS x k y l := by
  symm; unfold sameS; rw [decide_eq_false_iff_not]; rintro ⟨rfl, _⟩; exact h rfl
theorem sameS_const {x y : List (ByteArray × Int)} {k l : Int} (h : k ≠ l) : false = sameS x k y l := by
  symm; unfold sameS; rw [decide_eq_false_iff_not]; rintro ⟨_, e⟩; exact h e
theorem sameS_at {x y : List (ByteArray × Int)} {k l : Int} {n : Nat} {c d : ByteArray × Int} (h : x[n]? = some c) (h' : y[n]? = some d) (hne : c ≠ d) : false = sameS x k y l := by
  symm; unfold sameS; rw [decide_eq_false_iff_not]; rintro ⟨rfl, _⟩; rw [h] at h'; exact hne (by simpa using h')
theorem sameS_true {x y : List (ByteArray × Int)} {k : Int} {len n : Nat} (hx : x.length = len) (hy : y.length = len) (hn : len ≤ n) (h : ∀ j, j < n → x[j]? = y[j]?) : true = sameS x k y k := by
  symm; unfold sameS; rw [decide_eq_true_iff]; refine ⟨List.ext_getElem? fun j => ?_, rfl⟩
  rcases Nat.lt_or_ge j n with hj | hj
  · exact h j hj
  · rw [List.getElem?_eq_none (by omega), List.getElem?_eq_none (by omega)]
theorem sameS_refl (x : List (ByteArray × Int)) (k : Int) : sameS x k x k = true := by simp [sameS]

/-- the sum of two lists of coefficients by increasing names; less compares names -/
def addF (less : ByteArray → ByteArray → Bool) : Nat → List (ByteArray × Int) → List (ByteArray × Int) → List (ByteArray × Int)
  | 0, _, _ => []
  | _ + 1, [], [] => []
  | n + 1, x :: xs, [] => x :: addF less n xs []
  | n + 1, [], y :: ys => y :: addF less n [] ys
  | n + 1, x :: xs, y :: ys =>
    if less x.1 y.1 then x :: addF less n xs (y :: ys)
    else if less y.1 x.1 then y :: addF less n (x :: xs) ys
    else if x.2 + y.2 = 0 then addF less n xs ys else (x.1, x.2 + y.2) :: addF less n xs ys
theorem addF_more (less : ByteArray → ByteArray → Bool) : ∀ (n m : Nat) (xs ys : List (ByteArray × Int)), xs.length + ys.length ≤ n → xs.length + ys.length ≤ m → addF less n xs ys = addF less m xs ys
  | 0, m, xs, ys, h, _ => by
    have h1 : xs = [] := List.eq_nil_of_length_eq_zero (by omega)
    have h2 : ys = [] := List.eq_nil_of_length_eq_zero (by omega)
    subst h1 h2
    cases m <;> rfl
  | n + 1, 0, xs, ys, _, h => by
    have h1 : xs = [] := List.eq_nil_of_length_eq_zero (by omega)
    have h2 : ys = [] := List.eq_nil_of_length_eq_zero (by omega)
    subst h1 h2
    rfl
  | n + 1, m + 1, [], [], _, _ => rfl
  | n + 1, m + 1, x :: xs, [], h, h' => by simp only [addF]; rw [addF_more less n m xs [] (by simp at h ⊢; omega) (by simp at h' ⊢; omega)]
  | n + 1, m + 1, [], y :: ys, h, h' => by simp only [addF]; rw [addF_more less n m [] ys (by simp at h ⊢; omega) (by simp at h' ⊢; omega)]
  | n + 1, m + 1, x :: xs, y :: ys, h, h' => by
    simp only [addF]
    rw [addF_more less n m xs (y :: ys) (by simp at h ⊢; omega) (by simp at h' ⊢; omega), addF_more less n m (x :: xs) ys (by simp at h ⊢; omega) (by simp at h' ⊢; omega), addF_more less n m xs ys (by simp at h ⊢; omega) (by simp at h' ⊢; omega)]
def addC (less : ByteArray → ByteArray → Bool) (xs ys : List (ByteArray × Int)) : List (ByteArray × Int) := addF less (xs.length + ys.length) xs ys
section
variable {less : ByteArray → ByteArray → Bool} {x y : ByteArray × Int} {xs ys : List (ByteArray × Int)}
theorem addC_nil : addC less [] [] = [] := rfl
theorem addC_left0 : addC less (x :: xs) [] = x :: addC less xs [] := rfl
theorem addC_right0 : addC less [] (y :: ys) = y :: addC less [] ys := by
  unfold addC
  rw [addF_more less (([] : List (ByteArray × Int)).length + (y :: ys).length) (ys.length + 1) _ _ (by simp) (by simp)]
  simp only [addF]
  rw [addF_more less ys.length (([] : List (ByteArray × Int)).length + ys.length) _ _ (by simp) (by simp)]
theorem addC_left (h : less x.1 y.1 = true) : addC less (x :: xs) (y :: ys) = x :: addC less xs (y :: ys) := by
  unfold addC
  rw [addF_more less ((x :: xs).length + (y :: ys).length) (xs.length + (y :: ys).length + 1) _ _ (by simp) (by simp only [List.length_cons]; omega)]
  simp only [addF, h, if_true]
theorem addC_right (h : less x.1 y.1 = false) (h' : less y.1 x.1 = true) : addC less (x :: xs) (y :: ys) = y :: addC less (x :: xs) ys := by
  unfold addC
  rw [addF_more less ((x :: xs).length + (y :: ys).length) ((x :: xs).length + ys.length + 1) _ _ (by simp) (by simp only [List.length_cons]; omega)]
  simp [addF, h, h']
theorem addC_both (h : less x.1 y.1 = false) (h' : less y.1 x.1 = false) : addC less (x :: xs) (y :: ys) = if x.2 + y.2 = 0 then addC less xs ys else (x.1, x.2 + y.2) :: addC less xs ys := by
  have e := addF_more less (xs.length + ys.length + 1) (xs.length + ys.length) xs ys (by omega) (by omega)
  unfold addC
  rw [addF_more less ((x :: xs).length + (y :: ys).length) (xs.length + ys.length + 1 + 1) _ _ (by simp) (by simp only [List.length_cons]; omega)]
  simp only [addF, h, h', e]
  simp
end
theorem drop_cons {α : Type} {l : List α} {n : Nat} {x : α} (h : l[n]? = some x) : l.drop n = x :: l.drop (n + 1) := by
  obtain ⟨hlt, hx⟩ := List.getElem?_eq_some_iff.1 h
  rw [List.drop_eq_getElem_cons hlt, hx]
theorem drop_nil {α : Type} {l : List α} {n : Nat} (h : l.length ≤ n) : l.drop n = [] := List.drop_eq_nil_of_le h

end Go.Proofs.Ytcandeobhlfkbaa
/-
  Functions told from outside: what holds while nothing is known of them holds when they are told.
-/

namespace Go.Proofs.Ytcandeobhlfkbaa
open Go
variable {P : Program}
/-- the same functions are told from outside, but nothing is told of them yet -/
@[reducible] def Ext.quiet (E : Ext P) : Ext P := { on := E.on, mv := E.mv, call := fun _ _ _ _ _ => none }
theorem evC_quiet [Globs] (E : Ext P) {call : CallA} {ok : St → List Oper → Bool} {n : Nat} : ∀ (c : Code) (st : St), @evC _ P (Ext.quiet E) call ok n c st = @evC _ P E call ok n c st
  | .skip, _ => by simp only [evC]
  | .region _ ops draw, st => by simp only [evC]; rfl
  | .seq a b, st => by
    simp only [evC, evC_quiet E a]
    split <;> first | exact evC_quiet E b _ | rfl
  | .cond c a b, st => by simp only [evC, evC_quiet E a, evC_quiet E b]
  | .block _ c, st => by simp only [evC, evC_quiet E c]
  | .loop c, st => by
    simp only [evC]
    congr 1
    funext s
    exact evC_quiet E c s
  | .exit _, _ => by simp only [evC]
  | .ret, _ => by simp only [evC]
  | .scope c, st => by simp only [evC]; exact evC_quiet E c st
  | .label _, _ => by simp only [evC]
  | .goto _, _ => by simp only [evC]
  | .rangeFunc _ _ _ _, _ => by simp only [evC]
  | .refuse _, _ => by simp only [evC]
theorem evF_quiet [Globs] (E : Ext P) {ok : St → List Oper → Bool} : ∀ k, CLe (@evF _ P (Ext.quiet E) ok k) (@evF _ P E ok k)
  | 0 => by intro f args S tk n r he; simp [evF] at he
  | k + 1 => by
    have ih := evF_quiet E (ok := ok) k
    intro f args S tk n r he
    simp only [evF] at he ⊢
    split at he
    · simp at he
    rename_i hon
    rw [if_neg (show ¬ @Ext.on P E f = true from hon)]
    split at he
    · rename_i fn hf
      split at he
      · rename_i c hb
        split at he
        · simp at he
        · rename_i hname
          rw [if_neg hname]
          have out : ∀ {st0 : St} {r0 : AV × St}, outA P fn (@evC _ P (Ext.quiet E) (@evF _ P (Ext.quiet E) ok k) ok k c st0) = some r0 → outA P fn (@evC _ P E (@evF _ P E ok k) ok k c st0) = some r0 := by
            intro st0 r0 h
            rw [evC_quiet E] at h
            exact outA_mono (fun z hz => evC_mono ih (Nat.le_refl _) c _ z hz) h
          split at he
          · rename_i hmv
            rw [if_pos (show @Ext.mv P E f = true from hmv)]
            split at he
            · rename_i r' s1 ho
              rw [out ho]
              exact he
            · simp at he
          rename_i hmv
          rw [if_neg (show ¬ @Ext.mv P E f = true from hmv)]
          split at he
          · rename_i hp
            rw [if_pos hp]
            have one : ∀ {xs0 : List AV} {r0 : AV}, @runP _ P (Ext.quiet E) ok (@evF _ P (Ext.quiet E) ok k) k fn c xs0 = some r0 → @runP _ P E ok (@evF _ P E ok k) k fn c xs0 = some r0 := by
              intro xs0 r0 hrun
              unfold runP at hrun ⊢
              split at hrun
              · rename_i r' s1 ho
                rw [out ho]
                exact hrun
              · simp at hrun
            split at he
            · rename_i r' ho
              have : (if nilCmp c = true then runN (@runP _ P E ok (@evF _ P E ok k) k fn c) (args.map w2) else @runP _ P E ok (@evF _ P E ok k) k fn c (args.map w2)) = some r' := by
                split at ho
                · rename_i hn
                  rw [if_pos hn]
                  unfold runN at ho ⊢
                  split at ho
                  · split at ho
                    · rename_i q1 q2
                      rw [one q1, one q2]; exact ho
                    · simp at ho
                  · exact one ho
                · rename_i hn
                  rw [if_neg hn]
                  exact one ho
              rw [this]; exact he
            · simp at he
          · rename_i hp
            rw [if_neg hp]
            split at he
            · rename_i r' s1 ho
              rw [out ho]
              exact he
            · simp at he
      · simp at he
    · simp at he
theorem told [Globs] {E : Ext P} {f : FuncId} {args : List AV} {S : List Ent} {tk : List Nat} {n : Nat} {r : AV × List Ent × List Nat × Nat} (h : @cL _ P (Ext.quiet E) f args S tk n = some r) : @cL _ P E f args S tk n = some r := by
  obtain ⟨k, hk⟩ := (@cL_iff P _ (Ext.quiet E) _ _ _ _ _ _).1 h
  exact (@cL_iff P _ E _ _ _ _ _ _).2 ⟨k, evF_quiet E k _ _ _ _ _ _ hk⟩
theorem quiet_ok [Globs] (E : Ext P) : @ExtOk _ P (Ext.quiet E) := by
  letI := Ext.quiet E
  refine ⟨fun f args S tk n r S' tk' n' h => ?_, fun M f args S tk n r S' tk' n' h => ?_⟩
  · unfold extC at h; split at h <;> simp at h
  · unfold callP at h; split at h
    · unfold extC at h; split at h <;> simp at h
    · simp at h
end Go.Proofs.Ytcandeobhlfkbaa
/-
  Functions told from outside: what holds while less is told of them holds when more is told.
-/

namespace Go.Proofs.Ytcandeobhlfkbaa
open Go
section
variable {P : Program}
/-- the same functions are told from outside, but less is told of them -/
@[reducible] def Ext.sub (E : Ext P) (c0 : CallA) : Ext P := { on := E.on, mv := E.mv, call := c0 }
theorem evC_sub [Globs] (E : Ext P) {c0 : CallA} {call : CallA} {ok : St → List Oper → Bool} {n : Nat} : ∀ (c : Code) (st : St), @evC _ P (Ext.sub E c0) call ok n c st = @evC _ P E call ok n c st
  | .skip, _ => by simp only [evC]
  | .region _ ops draw, st => by simp only [evC]; rfl
  | .seq a b, st => by
    simp only [evC, evC_sub E a]
    split <;> first | exact evC_sub E b _ | rfl
  | .cond c a b, st => by simp only [evC, evC_sub E a, evC_sub E b]
  | .block _ c, st => by simp only [evC, evC_sub E c]
  | .loop c, st => by
    simp only [evC]
    congr 1
    funext s
    exact evC_sub E c s
  | .exit _, _ => by simp only [evC]
  | .ret, _ => by simp only [evC]
  | .scope c, st => by simp only [evC]; exact evC_sub E c st
  | .label _, _ => by simp only [evC]
  | .goto _, _ => by simp only [evC]
  | .rangeFunc _ _ _ _, _ => by simp only [evC]
  | .refuse _, _ => by simp only [evC]
theorem evF_sub [Globs] (E : Ext P) {c0 : CallA} (h0 : CLe c0 E.call) {ok : St → List Oper → Bool} : ∀ k, CLe (@evF _ P (Ext.sub E c0) ok k) (@evF _ P E ok k)
  | 0 => by intro f args S tk n r he; simp [evF] at he
  | k + 1 => by
    have ih := evF_sub E h0 (ok := ok) k
    intro f args S tk n r he
    simp only [evF] at he ⊢
    split at he
    · rename_i hon
      rw [if_pos (show @Ext.on P E f = true from hon)]
      exact h0 _ _ _ _ _ _ he
    rename_i hon
    rw [if_neg (show ¬ @Ext.on P E f = true from hon)]
    split at he
    · rename_i fn hf
      split at he
      · rename_i c hb
        split at he
        · simp at he
        · rename_i hname
          rw [if_neg hname]
          have out : ∀ {st0 : St} {r0 : AV × St}, outA P fn (@evC _ P (Ext.sub E c0) (@evF _ P (Ext.sub E c0) ok k) ok k c st0) = some r0 → outA P fn (@evC _ P E (@evF _ P E ok k) ok k c st0) = some r0 := by
            intro st0 r0 h
            rw [evC_sub E] at h
            exact outA_mono (fun z hz => evC_mono ih (Nat.le_refl _) c _ z hz) h
          split at he
          · rename_i hmv
            rw [if_pos (show @Ext.mv P E f = true from hmv)]
            split at he
            · rename_i r' s1 ho
              rw [out ho]
              exact he
            · simp at he
          rename_i hmv
          rw [if_neg (show ¬ @Ext.mv P E f = true from hmv)]
          split at he
          · rename_i hp
            rw [if_pos hp]
            have one : ∀ {xs0 : List AV} {r0 : AV}, @runP _ P (Ext.sub E c0) ok (@evF _ P (Ext.sub E c0) ok k) k fn c xs0 = some r0 → @runP _ P E ok (@evF _ P E ok k) k fn c xs0 = some r0 := by
              intro xs0 r0 hrun
              unfold runP at hrun ⊢
              split at hrun
              · rename_i r' s1 ho
                rw [out ho]
                exact hrun
              · simp at hrun
            split at he
            · rename_i r' ho
              have : (if nilCmp c = true then runN (@runP _ P E ok (@evF _ P E ok k) k fn c) (args.map w2) else @runP _ P E ok (@evF _ P E ok k) k fn c (args.map w2)) = some r' := by
                split at ho
                · rename_i hn
                  rw [if_pos hn]
                  unfold runN at ho ⊢
                  split at ho
                  · split at ho
                    · rename_i q1 q2
                      rw [one q1, one q2]; exact ho
                    · simp at ho
                  · exact one ho
                · rename_i hn
                  rw [if_neg hn]
                  exact one ho
              rw [this]; exact he
            · simp at he
          · rename_i hp
            rw [if_neg hp]
            split at he
            · rename_i r' s1 ho
              rw [out ho]
              exact he
            · simp at he
      · simp at he
    · simp at he
theorem told_sub [Globs] {E : Ext P} {c0 : CallA} (h0 : CLe c0 E.call) {f : FuncId} {args : List AV} {S : List Ent} {tk : List Nat} {n : Nat} {r : AV × List Ent × List Nat × Nat} (h : @cL _ P (Ext.sub E c0) f args S tk n = some r) : @cL _ P E f args S tk n = some r := by
  obtain ⟨k, hk⟩ := (@cL_iff P _ (Ext.sub E c0) _ _ _ _ _ _).1 h
  exact (@cL_iff P _ E _ _ _ _ _ _).2 ⟨k, evF_sub E h0 k _ _ _ _ _ _ hk⟩
end
end Go.Proofs.Ytcandeobhlfkbaa
/-
  What is told from outside: the union of names; behind it, the search for a point.
-/



namespace Go.Proofs.Ytcandeobhlfkbaa
open Go
instance : Globs := ⟨[], fun _ => false, true⟩
def strC (s : ByteArray) : List AV := [.prim (.string s)]
def strsA (l : List ByteArray) : AV := .frz (l.map strC) .unk
/-- the names of a list of cells -/
def strsOf : List (List AV) → Option (List ByteArray)
  | [] => some []
  | [.prim (.string x)] :: r => (strsOf r).map (x :: ·)
  | _ => none
theorem strsOf_map : ∀ l : List ByteArray, strsOf (l.map strC) = some l
  | [] => rfl
  | x :: l => by simp only [List.map_cons, strC, strsOf, strsOf_map l, Option.map_some]
theorem strsOf_some : ∀ {es : List (List AV)} {l : List ByteArray}, strsOf es = some l → es = l.map strC
  | [], l, h => by simp only [strsOf, Option.some.injEq] at h; subst h; rfl
  | e :: es, l, h => by
    unfold strsOf at h
    split at h
    · rename_i he; simp at he
    · rename_i x r he
      simp only [List.cons.injEq] at he
      obtain ⟨rfl, rfl⟩ := he
      simp only [Option.map_eq_some_iff] at h
      obtain ⟨l', h1, rfl⟩ := h
      rw [strsOf_some h1]; rfl
    · simp at h
/-- a name put into an increasing list, unless it is there -/
def putS (l : List ByteArray) (s : ByteArray) : List ByteArray :=
  match l with
  | [] => [s]
  | x :: r => if sLt x s = true then x :: putS r s else if sEq x s = true then x :: r else s :: x :: r
/-- the names of a list, increasing, each once -/
def uniS (l : List ByteArray) : List ByteArray := l.foldl putS []
def isNilc : Cap → Bool
  | .nilc => true
  | _ => false
def uniC (f : FuncId) (args : List AV) (S : List Ent) (tk : List Nat) (n : Nat) : Option (AV × List Ent × List Nat × Nat) := if f == 53 then (match args with
    | [.frz es c, .frz [] .nilc] => match strsOf es with
      | some l => if (decide (l.length ≤ 1000000) && (!l.isEmpty || isNilc c)) = true then some (strsA (uniS l), S, tk, n) else none
      | none => none
    | _ => none) else none
/-- at first, the union alone -/
@[reducible] instance E0 : Ext Try.prog where
  on := fun f => f == 53 || f == 17
  mv := fun _ => false
  call := uniC
theorem ext_mv (f : FuncId) : Ext.mv Try.prog f = false := rfl
section
variable (S : List Ent) (tk : List Nat) (k : Nat)
theorem names_Union (l : List ByteArray) (c : Cap) (hlen : l.length ≤ 1000000) (hc : (!l.isEmpty || isNilc c) = true) : cL Try.prog 53 [.frz (l.map strC) c, .frz [] .nilc] S tk k = some (strsA (uniS l), S, tk, k) := by
  refine call_ext rfl ?_
  simp only [Ext.call, uniC, strsOf_map, beq_self_eq_true, if_true]
  rw [if_pos (by rw [hc]; simpa using hlen)]
end
end Go.Proofs.Ytcandeobhlfkbaa
/-
  What the functions of the bounded numbers compute.
-/



namespace Go.Proofs.Ytcandeobhlfkbaa
open Go

/-- numbers of 64 bits -/
def i64 (n : Int) : Prop := -9223372036854775808 ≤ n ∧ n ≤ 9223372036854775807
theorem wrap_of {n : Int} (h : i64 n) : IntKind.i64.wrap n = n := Go.IntWalk.i64_in n h
theorem inB_i64 {n : Int} (h : inB n = true) : i64 n := by rw [inB_true] at h; unfold i64; omega

section
variable (S : List Ent) (tk : List Nat) (k : Nat)
theorem num_In (n : Int) : cL Try.prog 54 [.int n] S tk k = some (.bool (inB n), S, tk, k) := by
  refine call_pure Try.func54 rfl rfl (by decide +kernel) (by decide +kernel) Try.ntmps54 rfl rfl _ _ _ rfl ?_; rw [RK_KX]
  simp +contextual only [evs, ext_mv, nth, put, putT, getT, binInt, binStr, binBool, aUn, outA, resA, mapO, resA1, oneOf, w1, w2, w3, bots, cond_true, cond_false, if_true, if_false, ite_true, ite_false, reduceIte, reduceCtorEq, implies_true, Nat.reduceAdd, Nat.reduceSub, AV.int, AV.bool, AV.str, Nat.reduceBEq, Nat.reduceEqDiff, Nat.reduceMul, Nat.reduceLT, Nat.reduceLeDiff, Int.reduceNeg, BEq.rfl, beq_self_eq_true, tabl, cellsOf, fldA, ldA, stA, entAt, partA, takeN, over, leafOk, Value.oneCell', idxA, nilA, cellsEq, fillA, elemsA, pure1, pure2, reps, chkA, tys, Try.results54]
  unfold inB
  exact ⟨fun h => by simp at h ⊢; omega, fun h => by simp at h ⊢; omega⟩
theorem R01_In (n : Int) : cL Try.prog 57 [.int n] S tk k = some (.bool (inB n), S, tk, k) := by
  refine call_pure Try.func57 rfl rfl (by decide +kernel) (by decide +kernel) Try.ntmps57 rfl rfl _ _ _ rfl ?_; rw [RK_KX]
  simp +contextual only [evs, ext_mv, nth, put, putT, getT, binInt, binStr, binBool, aUn, outA, resA, mapO, resA1, oneOf, w1, w2, w3, bots, cond_true, cond_false, if_true, if_false, ite_true, ite_false, reduceIte, reduceCtorEq, implies_true, Nat.reduceAdd, Nat.reduceSub, AV.int, AV.bool, AV.str, Nat.reduceBEq, Nat.reduceEqDiff, Nat.reduceMul, Nat.reduceLT, Nat.reduceLeDiff, Int.reduceNeg, BEq.rfl, beq_self_eq_true, tabl, cellsOf, fldA, ldA, stA, entAt, partA, takeN, over, leafOk, Value.oneCell', idxA, nilA, cellsEq, fillA, elemsA, pure1, pure2, reps, chkA, tys, Try.results57]
  unfold inB
  exact ⟨fun h => by simp at h ⊢; omega, fun h => by simp at h ⊢; omega⟩
theorem num_checked (n : Int) (ok : Bool) : cL Try.prog 56 [.int n, .bool ok] S tk k = some (.tup [.int (chk ok n).1, .bool (chk ok n).2], S, tk, k) := by
  refine call_pure Try.func56 rfl rfl (by decide +kernel) (by decide +kernel) Try.ntmps56 rfl rfl _ _ _ rfl ?_; rw [RK_KX]
  simp +contextual only [evs, ext_mv, nth, put, putT, getT, binInt, binStr, binBool, aUn, outA, resA, mapO, resA1, oneOf, w1, w2, w3, bots, cond_true, cond_false, if_true, if_false, ite_true, ite_false, reduceIte, reduceCtorEq, implies_true, Nat.reduceAdd, Nat.reduceSub, AV.int, AV.bool, AV.str, Nat.reduceBEq, Nat.reduceEqDiff, Nat.reduceMul, Nat.reduceLT, Nat.reduceLeDiff, Int.reduceNeg, BEq.rfl, beq_self_eq_true, tabl, cellsOf, fldA, ldA, stA, entAt, partA, takeN, over, leafOk, Value.oneCell', idxA, nilA, cellsEq, fillA, elemsA, pure1, pure2, reps, chkA, tys, Try.results56, num_In]
  simp +contextual [chk]
theorem R01_result (n : Int) (ok : Bool) : cL Try.prog 58 [.int n, .bool ok] S tk k = some (.tup [.int (chk ok n).1, .bool (chk ok n).2], S, tk, k) := by
  refine call_pure Try.func58 rfl rfl (by decide +kernel) (by decide +kernel) Try.ntmps58 rfl rfl _ _ _ rfl ?_; rw [RK_KX]
  simp +contextual only [evs, ext_mv, nth, put, putT, getT, binInt, binStr, binBool, aUn, outA, resA, mapO, resA1, oneOf, w1, w2, w3, bots, cond_true, cond_false, if_true, if_false, ite_true, ite_false, reduceIte, reduceCtorEq, implies_true, Nat.reduceAdd, Nat.reduceSub, AV.int, AV.bool, AV.str, Nat.reduceBEq, Nat.reduceEqDiff, Nat.reduceMul, Nat.reduceLT, Nat.reduceLeDiff, Int.reduceNeg, BEq.rfl, beq_self_eq_true, tabl, cellsOf, fldA, ldA, stA, entAt, partA, takeN, over, leafOk, Value.oneCell', idxA, nilA, cellsEq, fillA, elemsA, pure1, pure2, reps, chkA, tys, Try.results58, R01_In]
  simp +contextual [chk]
theorem add_wrap {a b : Int} (ha : inB a = true) (hb : inB b = true) : IntKind.i64.wrap (a + b) = a + b := by
  rw [inB_true] at ha hb; exact wrap_of (by unfold i64; omega)
theorem num_Add (a b : Int) : cL Try.prog 41 [.int a, .int b] S tk k = some (.tup [.int (addS a b).1, .bool (addS a b).2], S, tk, k) := by
  refine call_pure Try.func41 rfl rfl (by decide +kernel) (by decide +kernel) Try.ntmps41 rfl rfl _ _ _ rfl ?_; rw [RK_KX]
  simp +contextual only [evs, ext_mv, nth, put, putT, getT, binInt, binStr, binBool, aUn, outA, resA, mapO, resA1, oneOf, w1, w2, w3, bots, cond_true, cond_false, if_true, if_false, ite_true, ite_false, reduceIte, reduceCtorEq, implies_true, Nat.reduceAdd, Nat.reduceSub, AV.int, AV.bool, AV.str, Nat.reduceBEq, Nat.reduceEqDiff, Nat.reduceMul, Nat.reduceLT, Nat.reduceLeDiff, Int.reduceNeg, BEq.rfl, beq_self_eq_true, tabl, cellsOf, fldA, ldA, stA, entAt, partA, takeN, over, leafOk, Value.oneCell', idxA, nilA, cellsEq, fillA, elemsA, pure1, pure2, reps, chkA, tys, Try.results41, num_In, num_checked, add_wrap]
  simp +contextual [addS, chk]
theorem R01_Add (a b : Int) : cL Try.prog 45 [.int a, .int b] S tk k = some (.tup [.int (addS a b).1, .bool (addS a b).2], S, tk, k) := by
  refine call_pure Try.func45 rfl rfl (by decide +kernel) (by decide +kernel) Try.ntmps45 rfl rfl _ _ _ rfl ?_; rw [RK_KX]
  simp +contextual only [evs, ext_mv, nth, put, putT, getT, binInt, binStr, binBool, aUn, outA, resA, mapO, resA1, oneOf, w1, w2, w3, bots, cond_true, cond_false, if_true, if_false, ite_true, ite_false, reduceIte, reduceCtorEq, implies_true, Nat.reduceAdd, Nat.reduceSub, AV.int, AV.bool, AV.str, Nat.reduceBEq, Nat.reduceEqDiff, Nat.reduceMul, Nat.reduceLT, Nat.reduceLeDiff, Int.reduceNeg, BEq.rfl, beq_self_eq_true, tabl, cellsOf, fldA, ldA, stA, entAt, partA, takeN, over, leafOk, Value.oneCell', idxA, nilA, cellsEq, fillA, elemsA, pure1, pure2, reps, chkA, tys, Try.results45, R01_In, R01_result]
  refine ⟨fun h => ?_, fun h => ?_⟩
  · cases hb : inB b with
    | true => simp [addS, chk, h, hb, add_wrap]
    | false => simp [addS, chk, h, hb]
  · simp [addS, chk, h]
theorem num_abs (n : Int) (h : i64 n) : cL Try.prog 55 [.int n] S tk k = some (.int (absS n), S, tk, k) := by
  refine call_pure Try.func55 rfl rfl (by decide +kernel) (by decide +kernel) Try.ntmps55 rfl rfl _ _ _ rfl ?_; rw [RK_KX]
  simp +contextual only [evs, ext_mv, nth, put, putT, getT, binInt, binStr, binBool, aUn, outA, resA, mapO, resA1, oneOf, w1, w2, w3, bots, cond_true, cond_false, if_true, if_false, ite_true, ite_false, reduceIte, reduceCtorEq, implies_true, Nat.reduceAdd, Nat.reduceSub, AV.int, AV.bool, AV.str, Nat.reduceBEq, Nat.reduceEqDiff, Nat.reduceMul, Nat.reduceLT, Nat.reduceLeDiff, Int.reduceNeg, BEq.rfl, beq_self_eq_true, tabl, cellsOf, fldA, ldA, stA, entAt, partA, takeN, over, leafOk, Value.oneCell', idxA, nilA, cellsEq, fillA, elemsA, pure1, pure2, reps, chkA, tys, Try.results55]
  simp only [IntKind.wrap_i64, absS, AV.prim.injEq, Value.int.injEq, Option.some.injEq, true_and, decide_eq_true_eq, decide_eq_false_iff_not]
  unfold i64 at h
  refine ⟨fun h1 => ?_, fun h1 => ⟨fun h2 => ?_, fun h2 => ?_⟩⟩ <;> (split <;> try split) <;> omega
theorem num_abs' {n : Int} (h : inB n = true) : cL Try.prog 55 [.int n] S tk k = some (.int n.natAbs, S, tk, k) := by rw [num_abs S tk k n (inB_i64 h), absS_in h]
theorem mul_case {a b : Int} (ha : inB a = true) (hb : inB b = true) (h0 : ¬ a = 0) (v : Int) (hv : v = (a.natAbs : Int)) :
    (decide ((b.natAbs : Int) > IntKind.i64.wrap (Int.tdiv 1000000000000 v)) = false → IntKind.i64.wrap (a * b) = a * b ∧ inB (a * b) = true) ∧ (decide ((b.natAbs : Int) > IntKind.i64.wrap (Int.tdiv 1000000000000 v)) = true → inB (a * b) = false) := by
  subst hv
  have hp : 0 < (a.natAbs : Int) := by omega
  have e : Int.tdiv 1000000000000 (a.natAbs : Int) = 1000000000000 / (a.natAbs : Int) := Int.tdiv_eq_ediv_of_nonneg (by omega)
  have h1 : 0 ≤ 1000000000000 / (a.natAbs : Int) := Int.ediv_nonneg (by omega) (by omega)
  have h2 : 1000000000000 / (a.natAbs : Int) ≤ 1000000000000 := Int.ediv_le_self _ (by omega)
  rw [e, wrap_of (by unfold i64; omega)]
  rcases mul_test a b h0 with ⟨h3, h4, h5, h6⟩ | ⟨h3, h4⟩
  · exact ⟨fun _ => ⟨wrap_of (by unfold i64; omega), h6⟩, fun h => by simp only [gt_iff_lt] at h; rw [h3] at h; simp at h⟩
  · exact ⟨fun h => by simp only [gt_iff_lt] at h; rw [h3] at h; simp at h, fun _ => h4⟩
theorem num_Mul (a b : Int) : cL Try.prog 40 [.int a, .int b] S tk k = some (.tup [.int (mulS a b).1, .bool (mulS a b).2], S, tk, k) := by
  refine call_pure Try.func40 rfl rfl (by decide +kernel) (by decide +kernel) Try.ntmps40 rfl rfl _ _ _ rfl ?_; rw [RK_KX]
  simp (maxSteps := 1000000) +contextual only [evs, ext_mv, nth, put, putT, getT, binInt, binStr, binBool, aUn, outA, resA, mapO, resA1, oneOf, w1, w2, w3, bots, cond_true, cond_false, if_true, if_false, ite_true, ite_false, reduceIte, reduceCtorEq, implies_true, Nat.reduceAdd, Nat.reduceSub, AV.int, AV.bool, AV.str, Nat.reduceBEq, Nat.reduceEqDiff, Nat.reduceMul, Nat.reduceLT, Nat.reduceLeDiff, Int.reduceNeg, BEq.rfl, beq_self_eq_true, tabl, cellsOf, fldA, ldA, stA, entAt, partA, takeN, over, leafOk, Value.oneCell', idxA, nilA, cellsEq, fillA, elemsA, pure1, pure2, reps, chkA, tys, Try.results40, num_In, num_checked, num_abs']
  refine ⟨fun ha => ⟨fun hb => ⟨fun h0 => ?_, fun h0 => ⟨fun h1 => ?_, fun h1 => ?_⟩⟩, fun hb => ?_⟩, fun ha => ?_⟩
  · simp at h0; subst h0; simp [mulS, chk, hb]; decide
  · simp at h1; subst h1; simp [mulS, chk, ha]; decide
  · have h0' : ¬ a = 0 := by simpa using h0
    obtain ⟨c1, c2⟩ := mul_case ha hb h0' _ rfl
    refine ⟨by omega, fun h => ?_, fun h => ?_⟩
    · simp [mulS, chk, ha, hb, c2 h]
    · simp [mulS, chk, ha, hb, (c1 h).1, (c1 h).2]
  · simp [mulS, chk, hb]
  · simp [mulS, chk, ha]
theorem R01_Mul (a b : Int) : cL Try.prog 43 [.int a, .int b] S tk k = some (.tup [.int (mulS a b).1, .bool (mulS a b).2], S, tk, k) := by
  refine call_pure Try.func43 rfl rfl (by decide +kernel) (by decide +kernel) Try.ntmps43 rfl rfl _ _ _ rfl ?_; rw [RK_KX]
  simp (maxSteps := 1000000) +contextual only [evs, ext_mv, nth, put, putT, getT, binInt, binStr, binBool, aUn, outA, resA, mapO, resA1, oneOf, w1, w2, w3, bots, cond_true, cond_false, if_true, if_false, ite_true, ite_false, reduceIte, reduceCtorEq, implies_true, Nat.reduceAdd, Nat.reduceSub, AV.int, AV.bool, AV.str, Nat.reduceBEq, Nat.reduceEqDiff, Nat.reduceMul, Nat.reduceLT, Nat.reduceLeDiff, Int.reduceNeg, BEq.rfl, beq_self_eq_true, tabl, cellsOf, fldA, ldA, stA, entAt, partA, takeN, over, leafOk, Value.oneCell', idxA, nilA, cellsEq, fillA, elemsA, pure1, pure2, reps, chkA, tys, Try.results43, R01_In]
  have wn : ∀ {x : Int}, inB x = true → IntKind.i64.wrap (0 - x) = 0 - x := fun h => wrap_of (by rw [inB_true] at h; unfold i64; omega)
  have comm : ∀ x y : Int, mulS x y = mulS y x := fun x y => by simp [mulS, Int.mul_comm, Bool.and_comm]
  refine ⟨fun ha => ⟨fun hb => ⟨fun h0 => ?_, fun h0 => ⟨fun h1 => ?_, fun h1 => ?_⟩⟩, fun hb => ?_⟩, fun ha => ?_⟩
  · simp at h0; subst h0; simp [mulS, chk, hb]; decide
  · simp at h1; subst h1; simp [mulS, chk, ha]; decide
  · have h0' : ¬ a = 0 := by simpa using h0
    have h1' : ¬ b = 0 := by simpa using h1
    rw [wn ha, wn hb, comm a b]
    obtain ⟨c1, c2⟩ := mul_case hb ha h1' _ rfl
    rw [Int.mul_comm] at c1 c2
    simp only [decide_eq_true_eq, decide_eq_false_iff_not] at c1 c2 ⊢
    have fin1 : ∀ x y : Int, x = (a.natAbs : Int) → y = (b.natAbs : Int) → ¬ y = 0 ∧ (x > IntKind.i64.wrap (Int.tdiv 1000000000000 y) → 0 = (mulS b a).1 ∧ false = (mulS b a).2) ∧ (¬ x > IntKind.i64.wrap (Int.tdiv 1000000000000 y) → IntKind.i64.wrap (a * b) = (mulS b a).1 ∧ true = (mulS b a).2) := by
      intro x y hx hy
      subst hx hy
      refine ⟨by omega, fun h => ?_, fun h => ?_⟩
      · rw [Int.mul_comm] at c2; simp [mulS, chk, ha, hb, c2 h]
      · rw [Int.mul_comm] at c1; simp [mulS, chk, ha, hb, (c1 h).2]; rw [Int.mul_comm]; exact (c1 h).1
    refine ⟨fun ha0 => ⟨fun hb0 => ?_, fun hb0 => ?_⟩, fun ha0 => ⟨fun hb0 => ?_, fun hb0 => ?_⟩⟩
    all_goals exact fin1 _ _ (by omega) (by omega)
  · simp [mulS, chk, hb]
  · simp [mulS, chk, ha]

theorem absS_nn {n : Int} (h : i64 n) : 0 ≤ absS n ∧ i64 (absS n) := by
  unfold absS; unfold i64 at *; split
  · omega
  · split <;> omega
theorem gcd_stepZ (x y : Int) : Int.gcd y (x % y) = Int.gcd x y := by
  rw [Int.emod_def, Int.sub_eq_add_neg, ← Int.mul_neg, Int.gcd_add_mul_left_right, Int.gcd_comm]
theorem lit16 {T : List AV} (h : T.length = 16) : ∃ t0 t1 t2 t3 t4 t5 t6 t7 t8 t9 t10 t11 t12 t13 t14 t15, T = [t0, t1, t2, t3, t4, t5, t6, t7, t8, t9, t10, t11, t12, t13, t14, t15] := by
  match T, h with
  | [t0, t1, t2, t3, t4, t5, t6, t7, t8, t9, t10, t11, t12, t13, t14, t15], _ => exact ⟨t0, t1, t2, t3, t4, t5, t6, t7, t8, t9, t10, t11, t12, t13, t14, t15, rfl⟩
theorem lit18 {T : List AV} (h : T.length = 18) : ∃ t0 t1 t2 t3 t4 t5 t6 t7 t8 t9 t10 t11 t12 t13 t14 t15 t16 t17, T = [t0, t1, t2, t3, t4, t5, t6, t7, t8, t9, t10, t11, t12, t13, t14, t15, t16, t17] := by
  match T, h with
  | [t0, t1, t2, t3, t4, t5, t6, t7, t8, t9, t10, t11, t12, t13, t14, t15, t16, t17], _ => exact ⟨t0, t1, t2, t3, t4, t5, t6, t7, t8, t9, t10, t11, t12, t13, t14, t15, t16, t17, rfl⟩
theorem tmod_case {a b : Int} (hb : 0 < b) : (a.tmod b = 0 ∧ a.tdiv b = a / b) ∨ (0 < a.tmod b ∧ a.tdiv b = a / b) ∨ (a.tmod b < 0 ∧ a.tdiv b - 1 = a / b) := by
  have e1 := @Int.tmod_eq_emod a b
  have e2 := @Int.tdiv_eq_ediv a b
  have h1 := Int.emod_nonneg a (show b ≠ 0 by omega)
  have h2 := Int.emod_lt_of_pos a hb
  have hs : b.sign = 1 := Int.sign_eq_one_of_pos hb
  by_cases hd : 0 ≤ a ∨ b ∣ a
  · rw [if_pos hd] at e1 e2
    rcases Int.lt_or_le 0 (a.tmod b) with h | h
    · exact .inr (.inl ⟨h, by omega⟩)
    · exact .inl ⟨by omega, by omega⟩
  · rw [if_neg hd] at e1 e2
    exact .inr (.inr ⟨by omega, by omega⟩)
theorem tdiv_bound {a b : Int} (a0 : -1000000000000 ≤ a) (a1 : a ≤ 1000000000000) : -1000000000000 ≤ a.tdiv b ∧ a.tdiv b ≤ 1000000000000 := by
  have := Int.natAbs_tdiv a b
  have h2 : (a.tdiv b).natAbs ≤ a.natAbs := by rw [this]; exact Nat.div_le_self _ _
  omega
theorem tmod_bound {a b : Int} (a0 : -1000000000000 ≤ a) (a1 : a ≤ 1000000000000) : -1000000000000 ≤ a.tmod b ∧ a.tmod b ≤ 1000000000000 := by
  have h2 : (a.tmod b).natAbs ≤ a.natAbs := by rw [Int.natAbs_tmod]; exact Nat.mod_le _ _
  omega

/-- the quotient, rounded down, by a positive number -/
theorem div_case {a b : Int} (ha : inB a = true) (hb : 0 < b) : IntKind.i64.wrap (a.tdiv b) = a.tdiv b ∧ IntKind.i64.wrap (a.tdiv b - 1) = a.tdiv b - 1 ∧ (divS a b).1 = (if inB b then a / b else 0) ∧ (divS a b).2 = inB b := by
  rw [inB_true] at ha
  have := tdiv_bound ha.1 ha.2 (b := b)
  refine ⟨wrap_of (by unfold i64; omega), wrap_of (by unfold i64; omega), ?_, ?_⟩
  · unfold divS
    rw [inB_true.2 ha, Int.fdiv_eq_ediv_of_nonneg a (by omega)]
    have : (b == 0) = false := by simp; omega
    rw [this]; cases inB b <;> simp
  · unfold divS
    rw [inB_true.2 ha]
    have : (b == 0) = false := by simp; omega
    rw [this]; cases inB b <;> simp
end
end Go.Proofs.Ytcandeobhlfkbaa
/-
  What the checks of forms compute.
-/

namespace Go.Proofs.Ytcandeobhlfkbaa
open Go

/-- a coefficient, a list of them, a form, a row, as the evaluator sees them -/
def coefC (c : ByteArray × Int) : List AV := [.prim (.string c.1), .prim (.int .i64 c.2)]
def coefsA (cs : List (ByteArray × Int)) : AV := .frz (cs.map coefC) .unk
def linA (cs : List (ByteArray × Int)) (n : Int) : AV := .agg [coefsA cs, .prim (.int .i64 n)]
def rowA (cs : List (ByteArray × Int)) (n : Int) (eq : Bool) : AV := .agg [coefsA cs, .prim (.int .i64 n), .prim (.bool eq)]
theorem coefC_len (c : ByteArray × Int) : (coefC c).length = 2 := rfl
theorem nth_map {α β : Type} (f : α → β) : ∀ (l : List α) (i : Nat), nth (l.map f) i = (nth l i).map f
  | [], _ => rfl
  | _ :: _, 0 => rfl
  | _ :: l, i + 1 => nth_map f l i
theorem nth_drop {α : Type} : ∀ {l : List α} {i : Nat} {x : α}, nth l i = some x → l.drop i = x :: l.drop (i + 1)
  | y :: l, 0, x, h => by simp only [nth, Option.some.injEq] at h; subst h; rfl
  | _ :: l, i + 1, x, h => nth_drop (l := l) (i := i) h
  | [], _, _, h => by simp [nth] at h
theorem wrap_add {i m : Nat} (h : i ≤ 1048576) : IntKind.i64.wrap ((i : Int) + 1) = ((i + 1 : Nat) : Int) := by rw [wrap_of (by unfold i64; omega)]; omega
theorem wrap_pred {j : Nat} (h : j ≤ 1048576) : IntKind.i64.wrap (((j + 1 : Nat) : Int) - 1) = (j : Int) := by rw [wrap_of (by unfold i64; omega)]; omega

def badName (s : ByteArray) : Bool := sEq s ⟨#[]⟩ || decide ((s.size : Int) > 400)
def notAbove : Option ByteArray → ByteArray → Bool
  | none, _ => false
  | some p, s => sLt s p || sEq s p
def chkFrom (n : Int) : Option ByteArray → List (ByteArray × Int) → Int
  | _, [] => if inB n then 0 else 2
  | p, c :: cs => if badName c.1 then 3 else if c.2 == 0 || !inB c.2 then 2 else if notAbove p c.1 then 9 else chkFrom n (some c.1) cs
def checkF (cs : List (ByteArray × Int)) (n : Int) : Int := if 24 < cs.length then 7 else chkFrom n none cs
def prevName (cs : List (ByteArray × Int)) : Nat → Option ByteArray
  | 0 => none
  | j + 1 => (nth cs j).map (·.1)

section
variable (S : List Ent) (tk : List Nat) (k : Nat)
theorem linear_Check (cs : List (ByteArray × Int)) (n : Int) (hlen : cs.length ≤ 1048576) : cL Try.prog 37 [linA cs n] S tk k = some (.int (checkF cs n), S, tk, k) := by
  refine call_pure Try.func37 rfl rfl (by decide +kernel) (by decide +kernel) Try.ntmps37 rfl rfl _ _ _ rfl ?_; rw [RK_KX]
  simp (maxSteps := 1000000) +contextual (disch := first | with_reducible assumption | exact ⟨rfl⟩ | exact ⟨rfl, rfl⟩ | (refine _root_.id ?_; kernel_rfl) | omega) only [evs, ext_mv, nth, put, putT, getT, binInt, binStr, binBool, aUn, outA, resA, mapO, resA1, oneOf, w1, w2, w3, bots, cond_true, cond_false, if_true, if_false, ite_true, ite_false, reduceIte, reduceCtorEq, implies_true, Nat.reduceAdd, Nat.reduceSub, AV.int, AV.bool, AV.str, Nat.reduceBEq, Nat.reduceEqDiff, Nat.reduceMul, Nat.reduceLT, Nat.reduceLeDiff, Int.reduceNeg, BEq.rfl, beq_self_eq_true, tabl, cellsOf, fldA, ldA, stA, entAt, partA, takeN, over, leafOk, Value.oneCell', idxA, nilA, cellsEq, fillA, elemsA, pure1, pure2, reps, chkA, tys, Try.results37, KX_draw, KX_drawQ, KX_tail, lastO_one, lastO_more, dropL_one, dropL_more, callP_eq, callM_true, linA, coefsA]
  refine ⟨fun h => ?_, fun h => ?_⟩
  · unfold checkF; rw [if_pos (by simp at h; omega)]
  have hc : checkF cs n = chkFrom n none cs := by unfold checkF; rw [if_neg (by simp at h; omega)]
  rw [hc]
  refine loop1 (P := Try.prog) (fun i st => st.T.length = 57 ∧ i ≤ cs.length ∧ getT st.T 1 = .ref 0 0 0 ∧ getT st.T 10 = coefsA cs ∧ getT st.T 11 = .int cs.length ∧ getT st.T 12 = .int (i : Nat) ∧ st.S = [⟨0, [coefsA cs, .int n]⟩]) (fun i => cs.length - i) (fun i => .int (chkFrom n (prevName cs i) (cs.drop i))) 0 ?_ ?_
  case refine_2 => exact ⟨rfl, Nat.zero_le _, rfl, rfl, rfl, rfl, rfl⟩
  rintro i ⟨T, S', tk', n'⟩ ⟨hl, hi, e1, e10, e11, e12, rfl⟩ IH
  obtain ⟨g, hg, hT⟩ := tab_of hl
  rw [hg] at e1 e10 e11 e12
  subst hT
  clear hg hl h hc
  by_cases hlt : i < cs.length
  · have d1 : decide ((i : Int) < (cs.length : Int)) = true := by simpa using hlt
    obtain ⟨c, hc⟩ := nth_some hlt
    have hc' : nth (cs.map coefC) i = some (coefC c) := by rw [nth_map, hc]; rfl
    have hw := wrap_add (i := i) (m := 0) (by omega)
    have hp : prevName cs (i + 1) = some c.1 := by simp [prevName, hc]
    rw [nth_drop hc]
    rcases i with _ | j
    · have d2 : decide (((0 : Nat) : Int) > 0) = false := rfl
      simp (maxSteps := 1000000) +contextual (disch := first | with_reducible assumption | exact ⟨rfl⟩ | exact ⟨rfl, rfl⟩ | (refine _root_.id ?_; kernel_rfl) | omega) only [evs, ext_mv, nth, put, putT, getT, binInt, binStr, binBool, aUn, outA, resA, mapO, resA1, oneOf, w1, w2, w3, bots, cond_true, cond_false, if_true, if_false, ite_true, ite_false, reduceIte, reduceCtorEq, implies_true, Nat.reduceAdd, Nat.reduceSub, AV.int, AV.bool, AV.str, Nat.reduceBEq, Nat.reduceEqDiff, Nat.reduceMul, Nat.reduceLT, Nat.reduceLeDiff, Int.reduceNeg, BEq.rfl, beq_self_eq_true, tabl, cellsOf, fldA, ldA, stA, entAt, partA, takeN, over, leafOk, Value.oneCell', idxA, nilA, cellsEq, fillA, elemsA, pure1, pure2, reps, chkA, tys, Try.results37, KX_draw, KX_drawQ, KX_tail, lastO_one, lastO_more, dropL_one, dropL_more, callP_eq, callM_true, e1, e10, e11, e12, d1, d2, coefsA, hc', hw, coefC, num_In]
      refine ⟨fun h1 => ?_, fun h1 => ⟨fun h2 => ?_, fun h2 => ⟨fun h3 => ?_, fun h3 => ⟨fun h4 => ?_, fun h4 => ?_⟩⟩⟩⟩
      · simp [chkFrom, badName, h1]
      · simp only [chkFrom, badName, h1, h2]; rfl
      · simp only [chkFrom, badName, h1, h2, h3]; rfl
      · rw [IH 1 _ (by omega) ⟨rfl, by omega, rfl, rfl, rfl, rfl, rfl⟩, hp]
        simp only [chkFrom, badName, h1, h2, h3, h4, prevName, notAbove]; rfl
      · simp only [chkFrom, badName, h1, h2, h3, h4]; rfl
    · have d2 : decide (((j + 1 : Nat) : Int) > 0) = true := decide_eq_true (by omega)
      obtain ⟨p, hpr⟩ := nth_some (show j < cs.length by omega)
      have hp' : nth (cs.map coefC) j = some (coefC p) := by rw [nth_map, hpr]; rfl
      have hw' := wrap_pred (j := j) (by omega)
      have hpp : prevName cs (j + 1) = some p.1 := by simp [prevName, hpr]
      simp (maxSteps := 1000000) +contextual (disch := first | with_reducible assumption | exact ⟨rfl⟩ | exact ⟨rfl, rfl⟩ | (refine _root_.id ?_; kernel_rfl) | omega) only [evs, ext_mv, nth, put, putT, getT, binInt, binStr, binBool, aUn, outA, resA, mapO, resA1, oneOf, w1, w2, w3, bots, cond_true, cond_false, if_true, if_false, ite_true, ite_false, reduceIte, reduceCtorEq, implies_true, Nat.reduceAdd, Nat.reduceSub, AV.int, AV.bool, AV.str, Nat.reduceBEq, Nat.reduceEqDiff, Nat.reduceMul, Nat.reduceLT, Nat.reduceLeDiff, Int.reduceNeg, BEq.rfl, beq_self_eq_true, tabl, cellsOf, fldA, ldA, stA, entAt, partA, takeN, over, leafOk, Value.oneCell', idxA, nilA, cellsEq, fillA, elemsA, pure1, pure2, reps, chkA, tys, Try.results37, KX_draw, KX_drawQ, KX_tail, lastO_one, lastO_more, dropL_one, dropL_more, callP_eq, callM_true, e1, e10, e11, e12, d1, d2, coefsA, hc', hw, coefC, num_In, hp', hw']
      refine ⟨fun h1 => ?_, fun h1 => ⟨fun h2 => ?_, fun h2 => ⟨fun h3 => ?_, fun h3 => ⟨fun h4 => ?_, fun h4 => ?_⟩⟩⟩⟩
      · simp [chkFrom, badName, h1]
      · simp only [chkFrom, badName, h1, h2]; rfl
      · simp only [chkFrom, badName, h1, h2, h3]; rfl
      · refine ⟨fun h5 => ?_, fun h5 => ?_⟩
        · simp only [chkFrom, badName, h1, h2, h3, h4, hpp, notAbove, h5]; rfl
        · rw [IH (j + 1 + 1) _ (by omega) ⟨rfl, by omega, rfl, rfl, rfl, rfl, rfl⟩, hp]
          simp only [chkFrom, badName, h1, h2, h3, h4, hpp, notAbove, h5]; rfl
      · simp only [chkFrom, badName, h1, h2, h3, h4]; rfl
  · have d1 : decide ((i : Int) < (cs.length : Int)) = false := by simpa using hlt
    have he : i = cs.length := by omega
    simp (maxSteps := 1000000) +contextual (disch := first | with_reducible assumption | exact ⟨rfl⟩ | exact ⟨rfl, rfl⟩ | (refine _root_.id ?_; kernel_rfl) | omega) only [evs, ext_mv, nth, put, putT, getT, binInt, binStr, binBool, aUn, outA, resA, mapO, resA1, oneOf, w1, w2, w3, bots, cond_true, cond_false, if_true, if_false, ite_true, ite_false, reduceIte, reduceCtorEq, implies_true, Nat.reduceAdd, Nat.reduceSub, AV.int, AV.bool, AV.str, Nat.reduceBEq, Nat.reduceEqDiff, Nat.reduceMul, Nat.reduceLT, Nat.reduceLeDiff, Int.reduceNeg, BEq.rfl, beq_self_eq_true, tabl, cellsOf, fldA, ldA, stA, entAt, partA, takeN, over, leafOk, Value.oneCell', idxA, nilA, cellsEq, fillA, elemsA, pure1, pure2, reps, chkA, tys, Try.results37, KX_draw, KX_drawQ, KX_tail, lastO_one, lastO_more, dropL_one, dropL_more, callP_eq, callM_true, e1, e10, e11, e12, d1, coefsA, num_In]
    rw [he, List.drop_length]
    exact ⟨fun h => by simp [chkFrom, h], fun h => by simp [chkFrom, h]⟩
theorem R11_Check (cs : List (ByteArray × Int)) (n : Int) (hlen : cs.length ≤ 1048576) : cL Try.prog 42 [linA cs n] S tk k = some (.int (checkF cs n), S, tk, k) := by
  refine call_pure Try.func42 rfl rfl (by decide +kernel) (by decide +kernel) Try.ntmps42 rfl rfl _ _ _ rfl ?_; rw [RK_KX]
  simp (maxSteps := 1000000) +contextual (disch := first | with_reducible assumption | exact ⟨rfl⟩ | exact ⟨rfl, rfl⟩ | (refine _root_.id ?_; kernel_rfl) | omega) only [evs, ext_mv, nth, put, putT, getT, binInt, binStr, binBool, aUn, outA, resA, mapO, resA1, oneOf, w1, w2, w3, bots, cond_true, cond_false, if_true, if_false, ite_true, ite_false, reduceIte, reduceCtorEq, implies_true, Nat.reduceAdd, Nat.reduceSub, AV.int, AV.bool, AV.str, Nat.reduceBEq, Nat.reduceEqDiff, Nat.reduceMul, Nat.reduceLT, Nat.reduceLeDiff, Int.reduceNeg, BEq.rfl, beq_self_eq_true, tabl, cellsOf, fldA, ldA, stA, entAt, partA, takeN, over, leafOk, Value.oneCell', idxA, nilA, cellsEq, fillA, elemsA, pure1, pure2, reps, chkA, tys, Try.results42, KX_draw, KX_drawQ, KX_tail, lastO_one, lastO_more, dropL_one, dropL_more, callP_eq, callM_true, linA, coefsA]
  refine ⟨fun h => ?_, fun h => ?_⟩
  · unfold checkF; rw [if_pos (by simp at h; omega)]
  have hc : checkF cs n = chkFrom n none cs := by unfold checkF; rw [if_neg (by simp at h; omega)]
  rw [hc]
  refine loop1 (P := Try.prog) (fun i st => st.T.length = 60 ∧ i ≤ cs.length ∧ getT st.T 1 = .ref 0 0 0 ∧ getT st.T 3 = .int (i : Nat) ∧ st.S = [⟨0, [coefsA cs, .int n]⟩]) (fun i => cs.length - i) (fun i => .int (chkFrom n (prevName cs i) (cs.drop i))) 0 ?_ ?_
  case refine_2 => exact ⟨rfl, Nat.zero_le _, rfl, rfl, rfl⟩
  rintro i ⟨T, S', tk', n'⟩ ⟨hl, hi, e1, e3, rfl⟩ IH
  obtain ⟨g, hg, hT⟩ := tab_of hl
  rw [hg] at e1 e3
  subst hT
  clear hg hl h hc
  by_cases hlt : i < cs.length
  · have d1 : decide ((i : Int) < (cs.length : Int)) = true := by simpa using hlt
    obtain ⟨c, hc⟩ := nth_some hlt
    have hc' : nth (cs.map coefC) i = some (coefC c) := by rw [nth_map, hc]; rfl
    have hw := wrap_add (i := i) (m := 0) (by omega)
    have hp : prevName cs (i + 1) = some c.1 := by simp [prevName, hc]
    rw [nth_drop hc]
    rcases i with _ | j
    · have d2 : decide (((0 : Nat) : Int) > 0) = false := rfl
      simp (maxSteps := 1000000) +contextual (disch := first | with_reducible assumption | exact ⟨rfl⟩ | exact ⟨rfl, rfl⟩ | (refine _root_.id ?_; kernel_rfl) | omega) only [evs, ext_mv, nth, put, putT, getT, binInt, binStr, binBool, aUn, outA, resA, mapO, resA1, oneOf, w1, w2, w3, bots, cond_true, cond_false, if_true, if_false, ite_true, ite_false, reduceIte, reduceCtorEq, implies_true, Nat.reduceAdd, Nat.reduceSub, AV.int, AV.bool, AV.str, Nat.reduceBEq, Nat.reduceEqDiff, Nat.reduceMul, Nat.reduceLT, Nat.reduceLeDiff, Int.reduceNeg, BEq.rfl, beq_self_eq_true, tabl, cellsOf, fldA, ldA, stA, entAt, partA, takeN, over, leafOk, Value.oneCell', idxA, nilA, cellsEq, fillA, elemsA, pure1, pure2, reps, chkA, tys, Try.results42, KX_draw, KX_drawQ, KX_tail, lastO_one, lastO_more, dropL_one, dropL_more, callP_eq, callM_true, e1, e3, d1, d2, coefsA, hc', hw, coefC, R01_In]
      refine ⟨fun h1 => ?_, fun h1 => ⟨fun h2 => ?_, fun h2 => ⟨fun h3 => ?_, fun h3 => ⟨fun h4 => ?_, fun h4 => ?_⟩⟩⟩⟩
      · simp [chkFrom, badName, h1]
      · simp only [chkFrom, badName, h1, h2]; rfl
      · simp only [chkFrom, badName, h1, h2, h3]; rfl
      · rw [IH 1 _ (by omega) ⟨rfl, by omega, rfl, rfl, rfl⟩, hp]
        simp only [chkFrom, badName, h1, h2, h3, h4, prevName, notAbove]; rfl
      · simp only [chkFrom, badName, h1, h2, h3, h4]; rfl
    · have d2 : decide (((j + 1 : Nat) : Int) > 0) = true := decide_eq_true (by omega)
      obtain ⟨p, hpr⟩ := nth_some (show j < cs.length by omega)
      have hp' : nth (cs.map coefC) j = some (coefC p) := by rw [nth_map, hpr]; rfl
      have hw' := wrap_pred (j := j) (by omega)
      have hpp : prevName cs (j + 1) = some p.1 := by simp [prevName, hpr]
      simp (maxSteps := 1000000) +contextual (disch := first | with_reducible assumption | exact ⟨rfl⟩ | exact ⟨rfl, rfl⟩ | (refine _root_.id ?_; kernel_rfl) | omega) only [evs, ext_mv, nth, put, putT, getT, binInt, binStr, binBool, aUn, outA, resA, mapO, resA1, oneOf, w1, w2, w3, bots, cond_true, cond_false, if_true, if_false, ite_true, ite_false, reduceIte, reduceCtorEq, implies_true, Nat.reduceAdd, Nat.reduceSub, AV.int, AV.bool, AV.str, Nat.reduceBEq, Nat.reduceEqDiff, Nat.reduceMul, Nat.reduceLT, Nat.reduceLeDiff, Int.reduceNeg, BEq.rfl, beq_self_eq_true, tabl, cellsOf, fldA, ldA, stA, entAt, partA, takeN, over, leafOk, Value.oneCell', idxA, nilA, cellsEq, fillA, elemsA, pure1, pure2, reps, chkA, tys, Try.results42, KX_draw, KX_drawQ, KX_tail, lastO_one, lastO_more, dropL_one, dropL_more, callP_eq, callM_true, e1, e3, d1, d2, coefsA, hc', hw, coefC, R01_In, hp', hw']
      refine ⟨fun h1 => ?_, fun h1 => ⟨fun h2 => ?_, fun h2 => ⟨fun h3 => ?_, fun h3 => ⟨fun h4 => ?_, fun h4 => ?_⟩⟩⟩⟩
      · simp [chkFrom, badName, h1]
      · simp only [chkFrom, badName, h1, h2]; rfl
      · simp only [chkFrom, badName, h1, h2, h3]; rfl
      · refine ⟨fun h5 => ?_, fun h5 => ?_⟩
        · simp only [chkFrom, badName, h1, h2, h3, h4, hpp, notAbove, h5]; rfl
        · rw [IH (j + 1 + 1) _ (by omega) ⟨rfl, by omega, rfl, rfl, rfl⟩, hp]
          simp only [chkFrom, badName, h1, h2, h3, h4, hpp, notAbove, h5]; rfl
      · simp only [chkFrom, badName, h1, h2, h3, h4]; rfl
  · have d1 : decide ((i : Int) < (cs.length : Int)) = false := by simpa using hlt
    have he : i = cs.length := by omega
    simp (maxSteps := 1000000) +contextual (disch := first | with_reducible assumption | exact ⟨rfl⟩ | exact ⟨rfl, rfl⟩ | (refine _root_.id ?_; kernel_rfl) | omega) only [evs, ext_mv, nth, put, putT, getT, binInt, binStr, binBool, aUn, outA, resA, mapO, resA1, oneOf, w1, w2, w3, bots, cond_true, cond_false, if_true, if_false, ite_true, ite_false, reduceIte, reduceCtorEq, implies_true, Nat.reduceAdd, Nat.reduceSub, AV.int, AV.bool, AV.str, Nat.reduceBEq, Nat.reduceEqDiff, Nat.reduceMul, Nat.reduceLT, Nat.reduceLeDiff, Int.reduceNeg, BEq.rfl, beq_self_eq_true, tabl, cellsOf, fldA, ldA, stA, entAt, partA, takeN, over, leafOk, Value.oneCell', idxA, nilA, cellsEq, fillA, elemsA, pure1, pure2, reps, chkA, tys, Try.results42, KX_draw, KX_drawQ, KX_tail, lastO_one, lastO_more, dropL_one, dropL_more, callP_eq, callM_true, e1, e3, d1, coefsA, R01_In]
    rw [he, List.drop_length]
    exact ⟨fun h => by simp [chkFrom, h], fun h => by simp [chkFrom, h]⟩
end
end Go.Proofs.Ytcandeobhlfkbaa
/-
  What the values of forms at points are, by the program and by the reference; the law LinearValues' own parts.
-/

namespace Go.Proofs.Ytcandeobhlfkbaa
open Go

def findS (name : ByteArray) : List (ByteArray × Int) → Int
  | [] => 0
  | p :: r => if sEq p.1 name then p.2 else findS name r
/-- the index, and how many were looked at -/
def idxGo (name : ByteArray) : List (ByteArray × Int) → Nat → Int × Nat
  | [], _ => (-1, 0)
  | p :: r, i => if sEq p.1 name then (i, 1) else ((idxGo name r (i + 1)).1, (idxGo name r (i + 1)).2 + 1)
def valFrom (pt : List (ByteArray × Int)) : Int → List (ByteArray × Int) → Int × Bool
  | s, [] => (s, true)
  | s, c :: r => if (mulS c.2 (findS c.1 pt)).2 then (if (addS s (mulS c.2 (findS c.1 pt)).1).2 then valFrom pt (addS s (mulS c.2 (findS c.1 pt)).1).1 r else (0, false)) else (0, false)
def valueF (cs : List (ByteArray × Int)) (n : Int) (pt : List (ByteArray × Int)) : Int × Bool := if checkF cs n = 0 then valFrom pt n cs else (0, false)

section
variable (S : List Ent) (tk : List Nat) (k : Nat)
theorem R11_find (pt : List (ByteArray × Int)) (name : ByteArray) (hlen : pt.length ≤ 1048576) : cL Try.prog 44 [coefsA pt, .str name] S tk k = some (.int (findS name pt), S, tk, k) := by
  refine call_pure Try.func44 rfl rfl (by decide +kernel) (by decide +kernel) Try.ntmps44 rfl rfl _ _ _ rfl ?_; rw [RK_KX]
  simp (maxSteps := 1000000) +contextual (disch := first | with_reducible assumption | exact ⟨rfl⟩ | exact ⟨rfl, rfl⟩ | (refine _root_.id ?_; kernel_rfl) | omega) only [evs, ext_mv, nth, put, putT, getT, binInt, binStr, binBool, aUn, outA, resA, mapO, resA1, oneOf, w1, w2, w3, bots, cond_true, cond_false, if_true, if_false, ite_true, ite_false, reduceIte, reduceCtorEq, implies_true, Nat.reduceAdd, Nat.reduceSub, AV.int, AV.bool, AV.str, Nat.reduceBEq, Nat.reduceEqDiff, Nat.reduceMul, Nat.reduceLT, Nat.reduceLeDiff, Int.reduceNeg, BEq.rfl, beq_self_eq_true, tabl, cellsOf, fldA, ldA, stA, entAt, partA, takeN, over, leafOk, Value.oneCell', idxA, nilA, cellsEq, fillA, elemsA, pure1, pure2, reps, chkA, tys, Try.results44, KX_draw, KX_drawQ, KX_tail, lastO_one, lastO_more, dropL_one, dropL_more, callP_eq, callM_true, coefsA]
  refine loop1 (P := Try.prog) (fun i st => st.T.length = 24 ∧ i ≤ pt.length ∧ getT st.T 0 = coefsA pt ∧ getT st.T 1 = .str name ∧ getT st.T 5 = .int (i : Nat) ∧ st.S = []) (fun i => pt.length - i) (fun i => .int (findS name (pt.drop i))) 0 ?_ ?_
  case refine_2 => exact ⟨rfl, Nat.zero_le _, rfl, rfl, rfl, rfl⟩
  rintro i ⟨T, S', tk', n'⟩ ⟨hl, hi, e0, e1, e5, rfl⟩ IH
  obtain ⟨g, hg, hT⟩ := tab_of hl
  rw [hg] at e0 e1 e5
  subst hT
  clear hg hl
  by_cases hlt : i < pt.length
  · have d1 : decide ((i : Int) < (pt.length : Int)) = true := by simpa using hlt
    obtain ⟨c, hc⟩ := nth_some hlt
    have hc' : nth (pt.map coefC) i = some (coefC c) := by rw [nth_map, hc]; rfl
    have hw := wrap_add (i := i) (m := 0) (by omega)
    rw [nth_drop hc]
    simp (maxSteps := 1000000) +contextual (disch := first | with_reducible assumption | exact ⟨rfl⟩ | exact ⟨rfl, rfl⟩ | (refine _root_.id ?_; kernel_rfl) | omega) only [evs, ext_mv, nth, put, putT, getT, binInt, binStr, binBool, aUn, outA, resA, mapO, resA1, oneOf, w1, w2, w3, bots, cond_true, cond_false, if_true, if_false, ite_true, ite_false, reduceIte, reduceCtorEq, implies_true, Nat.reduceAdd, Nat.reduceSub, AV.int, AV.bool, AV.str, Nat.reduceBEq, Nat.reduceEqDiff, Nat.reduceMul, Nat.reduceLT, Nat.reduceLeDiff, Int.reduceNeg, BEq.rfl, beq_self_eq_true, tabl, cellsOf, fldA, ldA, stA, entAt, partA, takeN, over, leafOk, Value.oneCell', idxA, nilA, cellsEq, fillA, elemsA, pure1, pure2, reps, chkA, tys, Try.results44, KX_draw, KX_drawQ, KX_tail, lastO_one, lastO_more, dropL_one, dropL_more, callP_eq, callM_true, e0, e1, e5, d1, coefsA, hc', hw, coefC]
    refine ⟨fun h1 => by simp [findS, h1], fun h1 => ?_⟩
    rw [IH (i + 1) _ (by omega) ⟨rfl, by omega, rfl, rfl, rfl, rfl⟩]
    simp [findS, h1]
  · have d1 : decide ((i : Int) < (pt.length : Int)) = false := by simpa using hlt
    have he : i = pt.length := by omega
    simp (maxSteps := 1000000) +contextual (disch := first | with_reducible assumption | exact ⟨rfl⟩ | exact ⟨rfl, rfl⟩ | (refine _root_.id ?_; kernel_rfl) | omega) only [evs, ext_mv, nth, put, putT, getT, binInt, binStr, binBool, aUn, outA, resA, mapO, resA1, oneOf, w1, w2, w3, bots, cond_true, cond_false, if_true, if_false, ite_true, ite_false, reduceIte, reduceCtorEq, implies_true, Nat.reduceAdd, Nat.reduceSub, AV.int, AV.bool, AV.str, Nat.reduceBEq, Nat.reduceEqDiff, Nat.reduceMul, Nat.reduceLT, Nat.reduceLeDiff, Int.reduceNeg, BEq.rfl, beq_self_eq_true, tabl, cellsOf, fldA, ldA, stA, entAt, partA, takeN, over, leafOk, Value.oneCell', idxA, nilA, cellsEq, fillA, elemsA, pure1, pure2, reps, chkA, tys, Try.results44, KX_draw, KX_drawQ, KX_tail, lastO_one, lastO_more, dropL_one, dropL_more, callP_eq, callM_true, e0, e1, e5, d1, coefsA]
    rw [he, List.drop_length]; rfl
theorem Value_fn (p c : ByteArray × Int) (id ep : Nat) (h : entAt S id ep = some (coefC c)) : cL Try.prog 39 [.agg (coefC p), .ref id ep 0] S tk k = some (.bool (sEq p.1 c.1), S, tk, k + 1) := by
  refine call_shared Try.func39 rfl rfl (by decide +kernel) Try.ntmps39 rfl ?_; rw [RK_KX]
  simp (maxSteps := 1000000) +contextual (disch := first | with_reducible assumption | exact ⟨rfl⟩ | exact ⟨rfl, rfl⟩ | (refine _root_.id ?_; kernel_rfl) | omega) only [evs, ext_mv, nth, put, putT, getT, binInt, binStr, binBool, aUn, outA, resA, mapO, resA1, oneOf, w1, w2, w3, bots, cond_true, cond_false, if_true, if_false, ite_true, ite_false, reduceIte, reduceCtorEq, implies_true, Nat.reduceAdd, Nat.reduceSub, AV.int, AV.bool, AV.str, Nat.reduceBEq, Nat.reduceEqDiff, Nat.reduceMul, Nat.reduceLT, Nat.reduceLeDiff, Int.reduceNeg, BEq.rfl, beq_self_eq_true, tabl, cellsOf, fldA, ldA, stA, entAt_new, entAt_old, entAt_old2, List.take_left, List.take_length, partA, takeN, over, leafOk, Value.oneCell', idxA, nilA, cellsEq, fillA, elemsA, pure1, pure2, reps, chkA, tys, Try.results39, KX_draw, KX_drawQ, KX_tail, lastO_one, lastO_more, dropL_one, dropL_more, callP_eq, callM_true, coefC, h]
theorem IndexFunc_Value (pt : List (ByteArray × Int)) (c : ByteArray × Int) (id ep : Nat) (hlen : pt.length ≤ 1048576) (h : entAt S id ep = some (coefC c)) :
    cL Try.prog 38 [coefsA pt, .fn 39 [.ref id ep 0]] S tk k = some (.int (idxGo c.1 pt 0).1, S, tk, k + (idxGo c.1 pt 0).2) := by
  refine call_shared Try.func38 rfl rfl (by decide +kernel) Try.ntmps38 rfl ?_; rw [RK_KX]
  simp (maxSteps := 1000000) +contextual (disch := first | with_reducible assumption | exact ⟨rfl⟩ | exact ⟨rfl, rfl⟩ | (refine _root_.id ?_; kernel_rfl) | omega) only [evs, ext_mv, nth, put, putT, getT, binInt, binStr, binBool, aUn, outA, resA, mapO, resA1, oneOf, w1, w2, w3, bots, cond_true, cond_false, if_true, if_false, ite_true, ite_false, reduceIte, reduceCtorEq, implies_true, Nat.reduceAdd, Nat.reduceSub, AV.int, AV.bool, AV.str, Nat.reduceBEq, Nat.reduceEqDiff, Nat.reduceMul, Nat.reduceLT, Nat.reduceLeDiff, Int.reduceNeg, BEq.rfl, beq_self_eq_true, tabl, cellsOf, fldA, ldA, stA, entAt_new, entAt_old, entAt_old2, List.take_left, List.take_length, partA, takeN, over, leafOk, Value.oneCell', idxA, nilA, cellsEq, fillA, elemsA, pure1, pure2, reps, chkA, tys, Try.results38, KX_draw, KX_drawQ, KX_tail, lastO_one, lastO_more, dropL_one, dropL_more, callP_eq, callM_true, coefsA]
  refine loopS (P := Try.prog) (fun x st => st.T.length = 19 ∧ x.1 ≤ pt.length ∧ getT st.T 0 = coefsA pt ∧ getT st.T 1 = .fn 39 [.ref id ep 0] ∧ getT st.T 7 = .int pt.length ∧ getT st.T 8 = .int (x.1 : Nat) ∧ st.S = S ∧ st.tk = tk ∧ st.n = x.2) (fun x => pt.length - x.1)
    (fun x => (.int (idxGo c.1 (pt.drop x.1) x.1).1, S, tk, x.2 + (idxGo c.1 (pt.drop x.1) x.1).2)) (0, k) ?_ ?_
  case refine_2 => exact ⟨rfl, Nat.zero_le _, rfl, rfl, rfl, rfl, rfl, rfl, rfl⟩
  rintro ⟨i, m⟩ ⟨T, S', tk', n'⟩ ⟨hl, hi, e0, e1, e7, e8, eS, eT, eN⟩ IH
  simp only at eS eT eN
  subst eS eT eN
  obtain ⟨g, hg, hT⟩ := tab_of hl
  rw [hg] at e0 e1 e7 e8
  subst hT
  clear hg hl
  simp only at hi e8
  by_cases hlt : i < pt.length
  · have d1 : decide ((i : Int) < (pt.length : Int)) = true := by simpa using hlt
    obtain ⟨p, hc⟩ := nth_some hlt
    have hc' : nth (pt.map coefC) i = some (coefC p) := by rw [nth_map, hc]; rfl
    have hw := wrap_add (i := i) (m := 0) (by omega)
    have hf := fun k => Value_fn S' tk' k p c id ep h
    simp only [coefC] at hf hc'
    rw [nth_drop hc]
    simp (maxSteps := 1000000) +contextual (disch := first | with_reducible assumption | exact ⟨rfl⟩ | exact ⟨rfl, rfl⟩ | (refine _root_.id ?_; kernel_rfl) | omega) only [evs, ext_mv, nth, put, putT, getT, binInt, binStr, binBool, aUn, outA, resA, mapO, resA1, oneOf, w1, w2, w3, bots, cond_true, cond_false, if_true, if_false, ite_true, ite_false, reduceIte, reduceCtorEq, implies_true, Nat.reduceAdd, Nat.reduceSub, AV.int, AV.bool, AV.str, Nat.reduceBEq, Nat.reduceEqDiff, Nat.reduceMul, Nat.reduceLT, Nat.reduceLeDiff, Int.reduceNeg, BEq.rfl, beq_self_eq_true, tabl, cellsOf, fldA, ldA, stA, entAt_new, entAt_old, entAt_old2, List.take_left, List.take_length, partA, takeN, over, leafOk, Value.oneCell', idxA, nilA, cellsEq, fillA, elemsA, pure1, pure2, reps, chkA, tys, Try.results38, KX_draw, KX_drawQ, KX_tail, lastO_one, lastO_more, dropL_one, dropL_more, callP_eq, callM_true, e0, e1, e7, e8, d1, coefsA, hc', hw, hf]
    refine ⟨fun h1 => by simp [idxGo, h1], fun h1 => ?_⟩
    rw [IH (i + 1, n' + 1) _ (by simp only; omega) ⟨rfl, hlt, rfl, rfl, rfl, rfl, rfl, rfl, rfl⟩]
    simp [idxGo, h1]; omega
  · have d1 : decide ((i : Int) < (pt.length : Int)) = false := by simpa using hlt
    have he : i = pt.length := by omega
    simp (maxSteps := 1000000) +contextual (disch := first | with_reducible assumption | exact ⟨rfl⟩ | exact ⟨rfl, rfl⟩ | (refine _root_.id ?_; kernel_rfl) | omega) only [evs, ext_mv, nth, put, putT, getT, binInt, binStr, binBool, aUn, outA, resA, mapO, resA1, oneOf, w1, w2, w3, bots, cond_true, cond_false, if_true, if_false, ite_true, ite_false, reduceIte, reduceCtorEq, implies_true, Nat.reduceAdd, Nat.reduceSub, AV.int, AV.bool, AV.str, Nat.reduceBEq, Nat.reduceEqDiff, Nat.reduceMul, Nat.reduceLT, Nat.reduceLeDiff, Int.reduceNeg, BEq.rfl, beq_self_eq_true, tabl, cellsOf, fldA, ldA, stA, entAt_new, entAt_old, entAt_old2, List.take_left, List.take_length, partA, takeN, over, leafOk, Value.oneCell', idxA, nilA, cellsEq, fillA, elemsA, pure1, pure2, reps, chkA, tys, Try.results38, KX_draw, KX_drawQ, KX_tail, lastO_one, lastO_more, dropL_one, dropL_more, callP_eq, callM_true, e0, e1, e7, e8, d1, coefsA]
    simp only [he, List.drop_length]; rfl
/-- what is found -/
theorem idx_find (name : ByteArray) : ∀ (l : List (ByteArray × Int)) (i : Nat), ((idxGo name l i).1 = -1 ∧ findS name l = 0) ∨ ∃ j p, (idxGo name l i).1 = ((i + j : Nat) : Int) ∧ nth l j = some p ∧ findS name l = p.2
  | [], _ => .inl ⟨rfl, rfl⟩
  | p :: r, i => by
    simp only [idxGo, findS]
    by_cases h : sEq p.1 name = true
    · rw [if_pos h, if_pos h]; exact .inr ⟨0, p, rfl, rfl, rfl⟩
    · rw [if_neg h, if_neg h]
      rcases idx_find name r (i + 1) with ⟨h1, h2⟩ | ⟨j, q, h1, h2, h3⟩
      · exact .inl ⟨h1, h2⟩
      · exact .inr ⟨j + 1, q, by rw [h1]; omega, h2, h3⟩
theorem R11_Value (cs : List (ByteArray × Int)) (n : Int) (pt : List (ByteArray × Int)) (hlen : cs.length ≤ 1048576) (hlen' : pt.length ≤ 1048576) : cL Try.prog 25 [linA cs n, coefsA pt] S tk k = some (.tup [.int (valueF cs n pt).1, .bool (valueF cs n pt).2], S, tk, k) := by
  refine call_pure Try.func25 rfl rfl (by decide +kernel) (by decide +kernel) Try.ntmps25 rfl rfl _ _ _ rfl ?_; rw [RK_KX]
  have hC := fun S tk k => R11_Check S tk k cs n hlen
  have hF := fun S tk k name => R11_find S tk k pt name hlen'
  simp only [linA, coefsA] at hC hF
  simp (maxSteps := 1000000) +contextual (disch := first | with_reducible assumption | exact ⟨rfl⟩ | exact ⟨rfl, rfl⟩ | (refine _root_.id ?_; kernel_rfl) | omega) only [evs, ext_mv, nth, put, putT, getT, binInt, binStr, binBool, aUn, outA, resA, mapO, resA1, oneOf, w1, w2, w3, bots, cond_true, cond_false, if_true, if_false, ite_true, ite_false, reduceIte, reduceCtorEq, implies_true, Nat.reduceAdd, Nat.reduceSub, AV.int, AV.bool, AV.str, Nat.reduceBEq, Nat.reduceEqDiff, Nat.reduceMul, Nat.reduceLT, Nat.reduceLeDiff, Int.reduceNeg, BEq.rfl, beq_self_eq_true, tabl, cellsOf, fldA, ldA, stA, entAt, partA, takeN, over, leafOk, Value.oneCell', idxA, nilA, cellsEq, fillA, elemsA, pure1, pure2, reps, chkA, tys, Try.results25, KX_draw, KX_drawQ, KX_tail, lastO_one, lastO_more, dropL_one, dropL_more, callP_eq, callM_true, linA, coefsA, hC]
  refine ⟨fun h => ?_, fun h => ?_⟩
  · have : ¬ checkF cs n = 0 := by simpa using h
    simp [valueF, this]
  have h0 : checkF cs n = 0 := by simpa using h
  have hv : valueF cs n pt = valFrom pt n cs := by simp [valueF, h0]
  rw [hv]
  refine loop1 (P := Try.prog) (fun x st => st.T.length = 51 ∧ x.1 ≤ cs.length ∧ getT st.T 1 = coefsA pt ∧ getT st.T 2 = .ref 0 0 0 ∧ getT st.T 6 = .int x.2 ∧ getT st.T 7 = .int (x.1 : Nat) ∧ st.S = [⟨0, [coefsA cs, .int n]⟩]) (fun x => cs.length - x.1)
    (fun x => .tup [.int (valFrom pt x.2 (cs.drop x.1)).1, .bool (valFrom pt x.2 (cs.drop x.1)).2]) (0, n) ?_ ?_
  case refine_2 => exact ⟨rfl, Nat.zero_le _, rfl, rfl, rfl, rfl, rfl⟩
  rintro ⟨i, s⟩ ⟨T, S', tk', n'⟩ ⟨hl, hi, e1, e2, e6, e7, rfl⟩ IH
  obtain ⟨g, hg, hT⟩ := tab_of hl
  rw [hg] at e1 e2 e6 e7
  subst hT
  clear hg hl h hv h0
  simp only at hi e6 e7
  by_cases hlt : i < cs.length
  · have d1 : decide ((i : Int) < (cs.length : Int)) = true := by simpa using hlt
    obtain ⟨c, hc⟩ := nth_some hlt
    have hc' : nth (cs.map coefC) i = some (coefC c) := by rw [nth_map, hc]; rfl
    have hw := wrap_add (i := i) (m := 0) (by omega)
    rw [nth_drop hc]
    simp (maxSteps := 1000000) +contextual (disch := first | with_reducible assumption | exact ⟨rfl⟩ | exact ⟨rfl, rfl⟩ | (refine _root_.id ?_; kernel_rfl) | omega) only [evs, ext_mv, nth, put, putT, getT, binInt, binStr, binBool, aUn, outA, resA, mapO, resA1, oneOf, w1, w2, w3, bots, cond_true, cond_false, if_true, if_false, ite_true, ite_false, reduceIte, reduceCtorEq, implies_true, Nat.reduceAdd, Nat.reduceSub, AV.int, AV.bool, AV.str, Nat.reduceBEq, Nat.reduceEqDiff, Nat.reduceMul, Nat.reduceLT, Nat.reduceLeDiff, Int.reduceNeg, BEq.rfl, beq_self_eq_true, tabl, cellsOf, fldA, ldA, stA, entAt, partA, takeN, over, leafOk, Value.oneCell', idxA, nilA, cellsEq, fillA, elemsA, pure1, pure2, reps, chkA, tys, Try.results25, KX_draw, KX_drawQ, KX_tail, lastO_one, lastO_more, dropL_one, dropL_more, callP_eq, callM_true, e1, e2, e6, e7, d1, coefsA, hc', hw, coefC, hF, R01_Mul, R01_Add, List.all_cons, pure1, pure2]
    refine ⟨fun h1 => ⟨fun h2 => ?_, fun h2 => ?_⟩, fun h1 => ?_⟩
    · rw [IH (i + 1, _) _ (by simp only; omega) ⟨rfl, hlt, rfl, rfl, rfl, rfl, rfl⟩]
      simp [valFrom, h1, h2]
    · simp [valFrom, h1, h2]
    · simp [valFrom, h1]
  · have d1 : decide ((i : Int) < (cs.length : Int)) = false := by simpa using hlt
    have he : i = cs.length := by omega
    simp (maxSteps := 1000000) +contextual (disch := first | with_reducible assumption | exact ⟨rfl⟩ | exact ⟨rfl, rfl⟩ | (refine _root_.id ?_; kernel_rfl) | omega) only [evs, ext_mv, nth, put, putT, getT, binInt, binStr, binBool, aUn, outA, resA, mapO, resA1, oneOf, w1, w2, w3, bots, cond_true, cond_false, if_true, if_false, ite_true, ite_false, reduceIte, reduceCtorEq, implies_true, Nat.reduceAdd, Nat.reduceSub, AV.int, AV.bool, AV.str, Nat.reduceBEq, Nat.reduceEqDiff, Nat.reduceMul, Nat.reduceLT, Nat.reduceLeDiff, Int.reduceNeg, BEq.rfl, beq_self_eq_true, tabl, cellsOf, fldA, ldA, stA, entAt, partA, takeN, over, leafOk, Value.oneCell', idxA, nilA, cellsEq, fillA, elemsA, pure1, pure2, reps, chkA, tys, Try.results25, KX_draw, KX_drawQ, KX_tail, lastO_one, lastO_more, dropL_one, dropL_more, callP_eq, callM_true, e1, e2, e6, e7, d1, coefsA]
    rw [he, List.drop_length]; exact ⟨rfl, rfl⟩
theorem linear_Value (cs : List (ByteArray × Int)) (n : Int) (pt : List (ByteArray × Int)) (hlen : cs.length ≤ 1048576) (hlen' : pt.length ≤ 1048576) : cL Try.prog 24 [linA cs n, coefsA pt] S tk k = some (.tup [.int (valueF cs n pt).1, .bool (valueF cs n pt).2], S, tk, k) := by
  refine call_pure Try.func24 rfl rfl (by decide +kernel) (by decide +kernel) Try.ntmps24 rfl rfl _ _ _ rfl ?_; rw [RK_KX]
  have hC := fun S tk k => linear_Check S tk k cs n hlen
  simp only [linA, coefsA] at hC
  simp (maxSteps := 1000000) +contextual (disch := first | with_reducible assumption | exact ⟨rfl⟩ | exact ⟨rfl, rfl⟩ | (refine _root_.id ?_; kernel_rfl) | omega) only [evs, ext_mv, nth, put, putT, getT, binInt, binStr, binBool, aUn, outA, resA, mapO, resA1, oneOf, w1, w2, w3, bots, cond_true, cond_false, if_true, if_false, ite_true, ite_false, reduceIte, reduceCtorEq, implies_true, Nat.reduceAdd, Nat.reduceSub, AV.int, AV.bool, AV.str, Nat.reduceBEq, Nat.reduceEqDiff, Nat.reduceMul, Nat.reduceLT, Nat.reduceLeDiff, Int.reduceNeg, BEq.rfl, beq_self_eq_true, tabl, cellsOf, fldA, ldA, stA, entAt, partA, takeN, over, leafOk, Value.oneCell', idxA, nilA, cellsEq, fillA, elemsA, pure1, pure2, reps, chkA, tys, Try.results24, KX_draw, KX_drawQ, KX_tail, lastO_one, lastO_more, dropL_one, dropL_more, callP_eq, callM_true, linA, coefsA, hC]
  refine ⟨fun h => ?_, fun h => ?_⟩
  · have : ¬ checkF cs n = 0 := by simpa using h
    simp [valueF, this]
  have h0 : checkF cs n = 0 := by simpa using h
  have hv : valueF cs n pt = valFrom pt n cs := by simp [valueF, h0]
  rw [hv]
  refine loop1 (P := Try.prog) (fun x st => st.T.length = 54 ∧ x.1 ≤ cs.length ∧ getT st.T 1 = coefsA pt ∧ getT st.T 2 = .ref 0 0 0 ∧ getT st.T 6 = .int x.2 ∧ getT st.T 19 = coefsA cs ∧ getT st.T 20 = .int cs.length ∧ getT st.T 21 = .int (x.1 : Nat) ∧ st.S = [⟨0, [coefsA cs, .int n]⟩]) (fun x => cs.length - x.1)
    (fun x => .tup [.int (valFrom pt x.2 (cs.drop x.1)).1, .bool (valFrom pt x.2 (cs.drop x.1)).2]) (0, n) ?_ ?_
  case refine_2 => exact ⟨rfl, Nat.zero_le _, rfl, rfl, rfl, rfl, rfl, rfl, rfl⟩
  rintro ⟨i, s⟩ ⟨T, S', tk', n'⟩ ⟨hl, hi, e1, e2, e6, e19, e20, e21, rfl⟩ IH
  obtain ⟨g, hg, hT⟩ := tab_of hl
  rw [hg] at e1 e2 e6 e19 e20 e21
  subst hT
  clear hg hl h hv h0
  simp only at hi e6 e21
  by_cases hlt : i < cs.length
  · have d1 : decide ((i : Int) < (cs.length : Int)) = true := by simpa using hlt
    obtain ⟨c, hc⟩ := nth_some hlt
    have hc' : nth (cs.map coefC) i = some (coefC c) := by rw [nth_map, hc]; rfl
    have hw := wrap_add (i := i) (m := 0) (by omega)
    rw [nth_drop hc]
    have hI := fun k => IndexFunc_Value [⟨0, [coefsA cs, .int n]⟩, ⟨n', coefC c⟩] tk' k pt c 1 n' hlen' (by simp [entAt, nth])
    simp only [coefsA, coefC] at hI hc'
    have step : ∀ v : Int, v = findS c.1 pt → True := fun _ _ => trivial
    rcases idx_find c.1 pt 0 with ⟨h1, h2⟩ | ⟨j, p, h1, h2, h3⟩
    · have d2 : decide ((-1 : Int) ≥ 0) = false := rfl
      rw [h1] at hI
      simp (maxSteps := 1000000) +contextual (disch := first | with_reducible assumption | exact ⟨rfl⟩ | exact ⟨rfl, rfl⟩ | (refine _root_.id ?_; kernel_rfl) | omega) only [evs, ext_mv, nth, put, putT, getT, binInt, binStr, binBool, aUn, outA, resA, mapO, resA1, oneOf, w1, w2, w3, bots, cond_true, cond_false, if_true, if_false, ite_true, ite_false, reduceIte, reduceCtorEq, implies_true, Nat.reduceAdd, Nat.reduceSub, AV.int, AV.bool, AV.str, Nat.reduceBEq, Nat.reduceEqDiff, Nat.reduceMul, Nat.reduceLT, Nat.reduceLeDiff, Int.reduceNeg, BEq.rfl, beq_self_eq_true, tabl, cellsOf, fldA, ldA, stA, entAt, partA, takeN, over, leafOk, Value.oneCell', idxA, nilA, cellsEq, fillA, elemsA, pure1, pure2, reps, chkA, tys, Try.results24, KX_draw, KX_drawQ, KX_tail, lastO_one, lastO_more, dropL_one, dropL_more, callP_eq, callM_true, e1, e2, e6, e19, e20, e21, d1, coefsA, hc', hw, hI, num_Mul, num_Add, capsOk, d2]
      refine ⟨fun h5 => ⟨fun h6 => ?_, fun h6 => ?_⟩, fun h5 => ?_⟩
      · rw [IH (i + 1, _) _ (by simp only; omega) ⟨rfl, hlt, rfl, rfl, rfl, rfl, rfl, rfl, rfl⟩]
        simp [valFrom, h2, h5, h6]
      · simp [valFrom, h2, h5, h6]
      · simp [valFrom, h2, h5]
    · have h2' : nth (pt.map coefC) j = some (coefC p) := by rw [nth_map, h2]; rfl
      rw [Nat.zero_add] at h1
      have d2 : decide ((j : Int) ≥ 0) = true := by simp
      rw [h1] at hI
      simp only [coefC] at h2'
      simp (maxSteps := 1000000) +contextual (disch := first | with_reducible assumption | exact ⟨rfl⟩ | exact ⟨rfl, rfl⟩ | (refine _root_.id ?_; kernel_rfl) | omega) only [evs, ext_mv, nth, put, putT, getT, binInt, binStr, binBool, aUn, outA, resA, mapO, resA1, oneOf, w1, w2, w3, bots, cond_true, cond_false, if_true, if_false, ite_true, ite_false, reduceIte, reduceCtorEq, implies_true, Nat.reduceAdd, Nat.reduceSub, AV.int, AV.bool, AV.str, Nat.reduceBEq, Nat.reduceEqDiff, Nat.reduceMul, Nat.reduceLT, Nat.reduceLeDiff, Int.reduceNeg, BEq.rfl, beq_self_eq_true, tabl, cellsOf, fldA, ldA, stA, entAt, partA, takeN, over, leafOk, Value.oneCell', idxA, nilA, cellsEq, fillA, elemsA, pure1, pure2, reps, chkA, tys, Try.results24, KX_draw, KX_drawQ, KX_tail, lastO_one, lastO_more, dropL_one, dropL_more, callP_eq, callM_true, e1, e2, e6, e19, e20, e21, d1, coefsA, hc', hw, hI, num_Mul, num_Add, capsOk, d2, h2']
      refine ⟨fun h5 => ⟨fun h6 => ?_, fun h6 => ?_⟩, fun h5 => ?_⟩
      · rw [IH (i + 1, _) _ (by simp only; omega) ⟨rfl, hlt, rfl, rfl, rfl, rfl, rfl, rfl, rfl⟩]
        simp [valFrom, h3, h5, h6]
      · simp [valFrom, h3, h5, h6]
      · simp [valFrom, h3, h5]
  · have d1 : decide ((i : Int) < (cs.length : Int)) = false := by simpa using hlt
    have he : i = cs.length := by omega
    simp (maxSteps := 1000000) +contextual (disch := first | with_reducible assumption | exact ⟨rfl⟩ | exact ⟨rfl, rfl⟩ | (refine _root_.id ?_; kernel_rfl) | omega) only [evs, ext_mv, nth, put, putT, getT, binInt, binStr, binBool, aUn, outA, resA, mapO, resA1, oneOf, w1, w2, w3, bots, cond_true, cond_false, if_true, if_false, ite_true, ite_false, reduceIte, reduceCtorEq, implies_true, Nat.reduceAdd, Nat.reduceSub, AV.int, AV.bool, AV.str, Nat.reduceBEq, Nat.reduceEqDiff, Nat.reduceMul, Nat.reduceLT, Nat.reduceLeDiff, Int.reduceNeg, BEq.rfl, beq_self_eq_true, tabl, cellsOf, fldA, ldA, stA, entAt, partA, takeN, over, leafOk, Value.oneCell', idxA, nilA, cellsEq, fillA, elemsA, pure1, pure2, reps, chkA, tys, Try.results24, KX_draw, KX_drawQ, KX_tail, lastO_one, lastO_more, dropL_one, dropL_more, callP_eq, callM_true, e1, e2, e6, e19, e20, e21, d1, coefsA]
    rw [he, List.drop_length]; exact ⟨rfl, rfl⟩
end
end Go.Proofs.Ytcandeobhlfkbaa
/-
  Names and their order; increasing lists of names.
-/

namespace Go.Proofs.Ytcandeobhlfkbaa
open Go

theorem nloop_eq (s : ByteArray) : ∀ (n i : Nat) (r : List UInt8), s.size - i = n → ByteArray.toList.loop s i r = r.reverse ++ s.data.toList.drop i := by
  intro n
  induction n with
  | zero =>
    intro i r h
    rw [ByteArray.toList.loop, if_neg (by omega), List.drop_eq_nil_of_le (by simp; omega), List.append_nil]
  | succ n ih =>
    intro i r h
    have hi : i < s.data.size := by simp; omega
    rw [ByteArray.toList.loop, if_pos (by omega), ih (i + 1) _ (by omega), List.reverse_cons, List.append_assoc]
    congr 1
    have e : s.data.toList.drop i = s.data[i] :: s.data.toList.drop (i + 1) := by
      rw [← Array.getElem_toList hi, List.getElem_cons_drop]
    rw [e, List.singleton_append]
    congr 1
    show s.data[i]! = _
    rw [getElem!_pos s.data i hi]
def nm (s : ByteArray) : List UInt8 := s.data.toList
theorem nm_list (s : ByteArray) : s.toList = nm s := by rw [ByteArray.toList, nloop_eq s _ 0 [] rfl]; simp [nm]
theorem nm_inj {a b : ByteArray} (h : nm a = nm b) : a = b := by
  apply ByteArray.ext; exact Array.ext' h
theorem bytesLess_lt : ∀ (x y : List UInt8), Op.bytesLess x y = decide (x < y)
  | [], [] => by simp [Op.bytesLess]
  | a :: x, [] => by simp [Op.bytesLess]
  | [], b :: y => by simp [Op.bytesLess]
  | a :: x, b :: y => by
    rw [Op.bytesLess, bytesLess_lt x y]
    by_cases h1 : a < b
    · simp [h1, List.cons_lt_cons_iff]
    · by_cases h2 : a = b
      · subst h2; simp [List.cons_lt_cons_iff]
      · simp [h1, h2, List.cons_lt_cons_iff]
theorem sLt_nm (a b : ByteArray) : sLt a b = decide (nm a < nm b) := by
  unfold sLt; rw [nm_list, nm_list, bytesLess_lt]
theorem sEq_nm (a b : ByteArray) : sEq a b = decide (a = b) := by
  unfold sEq; rw [nm_list, nm_list]
  by_cases h : a = b
  · subst h; simp
  · have : nm a ≠ nm b := fun h' => h (nm_inj h')
    simp [h, this]
theorem nlt_trans {a b c : List UInt8} (h1 : a < b) (h2 : b < c) : a < c := List.lt_trans h1 h2
theorem nlt_irrefl (a : List UInt8) : ¬ a < a := List.lt_irrefl a
theorem nlt_tri (a b : ByteArray) : nm a < nm b ∨ a = b ∨ nm b < nm a := by
  by_cases h1 : nm a < nm b
  · exact .inl h1
  · by_cases h2 : nm b < nm a
    · exact .inr (.inr h2)
    · exact .inr (.inl (nm_inj (List.le_antisymm (List.not_lt.1 h2) (List.not_lt.1 h1))))
/-- each name is less than those behind it -/
def Inc (l : List ByteArray) : Prop := l.Pairwise fun a b => nm a < nm b
theorem mem_put (s x : ByteArray) : ∀ l : List ByteArray, x ∈ putS l s ↔ x = s ∨ x ∈ l
  | [] => by simp [putS]
  | y :: r => by
    rw [putS]
    split
    · rw [List.mem_cons, mem_put s x r, List.mem_cons]
      constructor
      · rintro (h | h | h) <;> simp [h]
      · rintro (h | h | h) <;> simp [h]
    · split
      · rename_i h
        rw [sEq_nm] at h
        have : y = s := by simpa using h
        subst this
        simp
      · simp [or_comm, or_left_comm]
theorem inc_put (s : ByteArray) : ∀ {l : List ByteArray}, Inc l → Inc (putS l s)
  | [], _ => by simp [putS, Inc]
  | y :: r, h => by
    have h0 := List.pairwise_cons.1 h
    rw [putS]
    split
    · rename_i h1
      rw [sLt_nm] at h1
      refine List.pairwise_cons.2 ⟨fun x hx => ?_, inc_put s h0.2⟩
      rcases (mem_put s x r).1 hx with rfl | hx
      · simpa using h1
      · exact h0.1 x hx
    · rename_i h1
      rw [sLt_nm] at h1
      split
      · exact h
      · rename_i h2
        rw [sEq_nm] at h2
        have h3 : nm s < nm y := by
          rcases nlt_tri s y with h | h | h
          · exact h
          · exact absurd (by simpa using h.symm) h2
          · exact absurd (by simpa using h) h1
        refine List.pairwise_cons.2 ⟨fun x hx => ?_, h⟩
        rcases List.mem_cons.1 hx with rfl | hx
        · exact h3
        · exact nlt_trans h3 (h0.1 x hx)
theorem len_put (s : ByteArray) : ∀ l : List ByteArray, (putS l s).length ≤ l.length + 1
  | [] => by simp [putS]
  | y :: r => by
    rw [putS]
    have := len_put s r
    split
    · simp; exact this
    · split <;> simp
theorem uni_snoc (l : List ByteArray) (s : ByteArray) : uniS (l ++ [s]) = putS (uniS l) s := by simp [uniS, List.foldl_append]
theorem uni_facts (l : List ByteArray) : Inc (uniS l) ∧ (∀ x, x ∈ uniS l ↔ x ∈ l) ∧ (uniS l).length ≤ l.length := by
  have key : ∀ (l acc : List ByteArray), Inc acc → Inc (l.foldl putS acc) ∧ (∀ x, x ∈ l.foldl putS acc ↔ x ∈ acc ∨ x ∈ l) ∧ (l.foldl putS acc).length ≤ acc.length + l.length := by
    intro l
    induction l with
    | nil => intro acc h; exact ⟨h, fun x => by simp, by simp⟩
    | cons s l ih =>
      intro acc h
      obtain ⟨h1, h2, h3⟩ := ih (putS acc s) (inc_put s h)
      refine ⟨h1, fun x => ?_, ?_⟩
      · rw [List.foldl_cons, h2 x, mem_put, List.mem_cons]
        constructor
        · rintro ((h | h) | h) <;> simp [h]
        · rintro (h | h | h) <;> simp [h]
      · have := len_put s acc
        simp only [List.foldl_cons, List.length_cons]; omega
  have := key l [] (by simp [Inc])
  exact ⟨this.1, fun x => by simpa [uniS] using this.2.1 x, by simpa [uniS] using this.2.2⟩
theorem putS_end {s : ByteArray} : ∀ {l : List ByteArray}, (∀ x ∈ l, nm x < nm s) → putS l s = l ++ [s]
  | [], _ => rfl
  | y :: r, h => by
    rw [putS, if_pos (by rw [sLt_nm]; simpa using h y (by simp)), putS_end fun x hx => h x (by simp [hx])]; rfl
/-- an increasing list is its own union -/
theorem fold_inc : ∀ (l acc : List ByteArray), Inc (acc ++ l) → l.foldl putS acc = acc ++ l
  | [], acc, _ => by simp
  | s :: l, acc, h => by
    have h1 : ∀ x ∈ acc, nm x < nm s := fun x hx => (List.pairwise_append.1 h).2.2 x hx s (by simp)
    rw [List.foldl_cons, putS_end h1, fold_inc l (acc ++ [s]) (by simpa using h)]; simp
theorem inc_eq : ∀ {l r : List ByteArray}, Inc l → Inc r → (∀ x, x ∈ l ↔ x ∈ r) → l = r
  | [], [], _, _, _ => rfl
  | [], y :: r, _, _, h => by have := (h y).2 (by simp); simp at this
  | x :: l, [], _, _, h => by have := (h x).1 (by simp); simp at this
  | x :: l, y :: r, h1, h2, h => by
    have a1 := List.pairwise_cons.1 h1
    have a2 := List.pairwise_cons.1 h2
    have hxy : x = y := by
      have m1 := (h x).1 (by simp)
      have m2 := (h y).2 (by simp)
      rcases List.mem_cons.1 m1 with e | m1
      · exact e
      · rcases List.mem_cons.1 m2 with e | m2
        · exact e.symm
        · exact absurd (nlt_trans (a1.1 y m2) (a2.1 x m1)) (nlt_irrefl _)
    subst hxy
    congr 1
    refine inc_eq a1.2 a2.2 fun z => ?_
    have hz := h z
    simp only [List.mem_cons] at hz
    constructor
    · intro hm
      rcases hz.1 (.inr hm) with e | hm'
      · subst e; exact absurd (a1.1 z hm) (nlt_irrefl _)
      · exact hm'
    · intro hm
      rcases hz.2 (.inr hm) with e | hm'
      · subst e; exact absurd (a2.1 z hm) (nlt_irrefl _)
      · exact hm'
end Go.Proofs.Ytcandeobhlfkbaa
/-
  Points, their radius and their order, by the program and by the reference.
-/


namespace Go.Proofs.Ytcandeobhlfkbaa
open Go
abbrev Pt := List (ByteArray × Int)
def radG (pt : Pt) : Nat → Pt → Nat
  | m, [] => m
  | m, c :: r => radG pt (max m (findS c.1 pt).natAbs) r
def radF (pt : Pt) : Nat := radG pt 0 pt
def befF (a b : Int) : Bool := if a.natAbs = b.natAbs then decide (b < a) else decide (a.natAbs < b.natAbs)
def lessO (o : Option ByteArray) (s : ByteArray) : Bool := match o with | none => true | some t => sLt s t
def leastG (a b : Pt) : Option ByteArray → Pt → Option ByteArray
  | o, [] => o
  | o, c :: r => leastG a b (if (findS c.1 a != findS c.1 b && lessO o c.1) = true then some c.1 else o) r
def ordF (a b : Pt) : Int :=
  if radF a < radF b then -1 else if radF b < radF a then 1 else match leastG a b none (a ++ b) with
    | none => 0
    | some s => if befF (findS s a) (findS s b) = true then -1 else 1
def PtI (pt : Pt) : Prop := ∀ c ∈ pt, i64 c.2
theorem findS_i64 {pt : Pt} (h : PtI pt) (s : ByteArray) : i64 (findS s pt) := by
  induction pt with
  | nil => simp [findS, i64]
  | cons c r ih =>
    unfold findS
    split
    · exact h c (by simp)
    · exact ih fun d hd => h d (by simp [hd])
theorem maxA_k {q : IntKind} {x y : Int} : maxA (.prim (.int q x)) (.prim (.int q y)) = some (.prim (.int q (if y > x then y else x))) := by simp [maxA]
section
variable (S : List Ent) (tk : List Nat) (k : Nat)
theorem R15_coordinate (pt : Pt) (name : ByteArray) (hlen : pt.length ≤ 1048576) : cL Try.prog 33 [coefsA pt, .str name] S tk k = some (.int (findS name pt), S, tk, k) := by
  refine call_pure Try.func33 rfl rfl (by decide +kernel) (by decide +kernel) Try.ntmps33 rfl rfl _ _ _ rfl ?_; rw [RK_KX]
  simp (maxSteps := 1000000) +contextual (disch := first | with_reducible assumption | exact ⟨rfl⟩ | exact ⟨rfl, rfl⟩ | (refine _root_.id ?_; kernel_rfl) | omega) only [evs, ext_mv, nth, put, putT, getT, binInt, binStr, binBool, aUn, outA, resA, mapO, resA1, oneOf, w1, w2, w3, bots, cond_true, cond_false, if_true, if_false, ite_true, ite_false, reduceIte, reduceCtorEq, implies_true, Nat.reduceAdd, Nat.reduceSub, AV.int, AV.bool, AV.str, Nat.reduceBEq, Nat.reduceEqDiff, Nat.reduceMul, Nat.reduceLT, Nat.reduceLeDiff, Int.reduceNeg, BEq.rfl, beq_self_eq_true, tabl, cellsOf, fldA, ldA, stA, entAt, partA, takeN, over, leafOk, Value.oneCell', idxA, nilA, cellsEq, fillA, elemsA, pure1, pure2, reps, chkA, tys, Try.results33, KX_draw, KX_drawQ, KX_tail, lastO_one, lastO_more, dropL_one, dropL_more, callP_eq, callM_true, coefsA]
  refine loop1 (P := Try.prog) (fun x st => st.T.length = 24 ∧ (x ≤ pt.length) ∧ (findS name pt = findS name (pt.drop x)) ∧ getT st.T 0 = coefsA pt ∧ getT st.T 1 = .str name ∧ getT st.T 5 = .int (x : Nat) ∧ st.S = []) (fun x => pt.length - x) (fun x => .int (findS name pt)) (0) ?_ ?_
  case refine_2 => exact ⟨rfl, Nat.zero_le _, rfl, rfl, rfl, rfl, rfl⟩
  rintro i ⟨T, S', tk', n'⟩ ⟨hl, hi, hE, e0, e1, e5, eS⟩ IH
  subst eS
  obtain ⟨g, hg, hT⟩ := tab_of hl
  rw [hg] at e0 e1 e5
  subst hT
  clear hg hl
  have hiw := wrap_add (i := i) (m := 0) (by omega)
  by_cases hlt : i < pt.length
  · have d1 : decide ((i : Int) < (pt.length : Int)) = true := by simpa using hlt
    obtain ⟨c, hc⟩ := nth_some hlt
    have hc' : nth (pt.map coefC) i = some (coefC c) := by rw [nth_map, hc]; rfl
    simp only [coefC] at hc'
    rw [nth_drop hc, findS] at hE
    cases h0 : sEq c.1 name with
    | true =>
      rw [if_pos h0] at hE
      simp (maxSteps := 1000000) +contextual (disch := first | with_reducible assumption | exact ⟨rfl⟩ | exact ⟨rfl, rfl⟩ | (refine _root_.id ?_; kernel_rfl) | omega) only [evs, ext_mv, nth, put, putT, getT, binInt, binStr, binBool, aUn, outA, resA, mapO, resA1, oneOf, w1, w2, w3, bots, cond_true, cond_false, if_true, if_false, ite_true, ite_false, reduceIte, reduceCtorEq, implies_true, Nat.reduceAdd, Nat.reduceSub, AV.int, AV.bool, AV.str, Nat.reduceBEq, Nat.reduceEqDiff, Nat.reduceMul, Nat.reduceLT, Nat.reduceLeDiff, Int.reduceNeg, BEq.rfl, beq_self_eq_true, tabl, cellsOf, fldA, ldA, stA, entAt, partA, takeN, over, leafOk, Value.oneCell', idxA, nilA, cellsEq, fillA, elemsA, pure1, pure2, reps, chkA, tys, Try.results33, KX_draw, KX_drawQ, KX_tail, lastO_one, lastO_more, dropL_one, dropL_more, callP_eq, callM_true, e0, e1, e5, d1, coefsA, hc', hiw, h0]
      rw [hE]
    | false =>
      rw [if_neg (by rw [h0]; simp)] at hE
      simp (maxSteps := 1000000) +contextual (disch := first | with_reducible assumption | exact ⟨rfl⟩ | exact ⟨rfl, rfl⟩ | (refine _root_.id ?_; kernel_rfl) | omega) only [evs, ext_mv, nth, put, putT, getT, binInt, binStr, binBool, aUn, outA, resA, mapO, resA1, oneOf, w1, w2, w3, bots, cond_true, cond_false, if_true, if_false, ite_true, ite_false, reduceIte, reduceCtorEq, implies_true, Nat.reduceAdd, Nat.reduceSub, AV.int, AV.bool, AV.str, Nat.reduceBEq, Nat.reduceEqDiff, Nat.reduceMul, Nat.reduceLT, Nat.reduceLeDiff, Int.reduceNeg, BEq.rfl, beq_self_eq_true, tabl, cellsOf, fldA, ldA, stA, entAt, partA, takeN, over, leafOk, Value.oneCell', idxA, nilA, cellsEq, fillA, elemsA, pure1, pure2, reps, chkA, tys, Try.results33, KX_draw, KX_drawQ, KX_tail, lastO_one, lastO_more, dropL_one, dropL_more, callP_eq, callM_true, e0, e1, e5, d1, coefsA, hc', hiw, h0]
      exact IH (i + 1) _ (by first | omega | (simp only; omega)) ⟨rfl, by first | omega | (dsimp only; omega), hE, rfl, rfl, rfl, rfl⟩
  · have d1 : decide ((i : Int) < (pt.length : Int)) = false := by simpa using hlt
    have hie : i = pt.length := by omega
    rw [hie, List.drop_length] at hE
    simp (maxSteps := 1000000) +contextual (disch := first | with_reducible assumption | exact ⟨rfl⟩ | exact ⟨rfl, rfl⟩ | (refine _root_.id ?_; kernel_rfl) | omega) only [evs, ext_mv, nth, put, putT, getT, binInt, binStr, binBool, aUn, outA, resA, mapO, resA1, oneOf, w1, w2, w3, bots, cond_true, cond_false, if_true, if_false, ite_true, ite_false, reduceIte, reduceCtorEq, implies_true, Nat.reduceAdd, Nat.reduceSub, AV.int, AV.bool, AV.str, Nat.reduceBEq, Nat.reduceEqDiff, Nat.reduceMul, Nat.reduceLT, Nat.reduceLeDiff, Int.reduceNeg, BEq.rfl, beq_self_eq_true, tabl, cellsOf, fldA, ldA, stA, entAt, partA, takeN, over, leafOk, Value.oneCell', idxA, nilA, cellsEq, fillA, elemsA, pure1, pure2, reps, chkA, tys, Try.results33, KX_draw, KX_drawQ, KX_tail, lastO_one, lastO_more, dropL_one, dropL_more, callP_eq, callM_true, e0, e1, e5, d1, coefsA]
    rw [hE]; rfl
theorem L15_coordinate (pt : Pt) (name : ByteArray) (hlen : pt.length ≤ 1048576) : cL Try.prog 21 [coefsA pt, .str name] S tk k = some (.int (findS name pt), S, tk, k) := by
  refine call_pure Try.func21 rfl rfl (by decide +kernel) (by decide +kernel) Try.ntmps21 rfl rfl _ _ _ rfl ?_; rw [RK_KX]
  simp (maxSteps := 1000000) +contextual (disch := first | with_reducible assumption | exact ⟨rfl⟩ | exact ⟨rfl, rfl⟩ | (refine _root_.id ?_; kernel_rfl) | omega) only [evs, ext_mv, nth, put, putT, getT, binInt, binStr, binBool, aUn, outA, resA, mapO, resA1, oneOf, w1, w2, w3, bots, cond_true, cond_false, if_true, if_false, ite_true, ite_false, reduceIte, reduceCtorEq, implies_true, Nat.reduceAdd, Nat.reduceSub, AV.int, AV.bool, AV.str, Nat.reduceBEq, Nat.reduceEqDiff, Nat.reduceMul, Nat.reduceLT, Nat.reduceLeDiff, Int.reduceNeg, BEq.rfl, beq_self_eq_true, tabl, cellsOf, fldA, ldA, stA, entAt, partA, takeN, over, leafOk, Value.oneCell', idxA, nilA, cellsEq, fillA, elemsA, pure1, pure2, reps, chkA, tys, Try.results21, KX_draw, KX_drawQ, KX_tail, lastO_one, lastO_more, dropL_one, dropL_more, callP_eq, callM_true, coefsA]
  refine loop1 (P := Try.prog) (fun x st => st.T.length = 24 ∧ (x ≤ pt.length) ∧ (findS name pt = findS name (pt.drop x)) ∧ getT st.T 0 = coefsA pt ∧ getT st.T 1 = .str name ∧ getT st.T 5 = .int (x : Nat) ∧ st.S = []) (fun x => pt.length - x) (fun x => .int (findS name pt)) (0) ?_ ?_
  case refine_2 => exact ⟨rfl, Nat.zero_le _, rfl, rfl, rfl, rfl, rfl⟩
  rintro i ⟨T, S', tk', n'⟩ ⟨hl, hi, hE, e0, e1, e5, eS⟩ IH
  subst eS
  obtain ⟨g, hg, hT⟩ := tab_of hl
  rw [hg] at e0 e1 e5
  subst hT
  clear hg hl
  have hiw := wrap_add (i := i) (m := 0) (by omega)
  by_cases hlt : i < pt.length
  · have d1 : decide ((i : Int) < (pt.length : Int)) = true := by simpa using hlt
    obtain ⟨c, hc⟩ := nth_some hlt
    have hc' : nth (pt.map coefC) i = some (coefC c) := by rw [nth_map, hc]; rfl
    simp only [coefC] at hc'
    rw [nth_drop hc, findS] at hE
    cases h0 : sEq c.1 name with
    | true =>
      rw [if_pos h0] at hE
      simp (maxSteps := 1000000) +contextual (disch := first | with_reducible assumption | exact ⟨rfl⟩ | exact ⟨rfl, rfl⟩ | (refine _root_.id ?_; kernel_rfl) | omega) only [evs, ext_mv, nth, put, putT, getT, binInt, binStr, binBool, aUn, outA, resA, mapO, resA1, oneOf, w1, w2, w3, bots, cond_true, cond_false, if_true, if_false, ite_true, ite_false, reduceIte, reduceCtorEq, implies_true, Nat.reduceAdd, Nat.reduceSub, AV.int, AV.bool, AV.str, Nat.reduceBEq, Nat.reduceEqDiff, Nat.reduceMul, Nat.reduceLT, Nat.reduceLeDiff, Int.reduceNeg, BEq.rfl, beq_self_eq_true, tabl, cellsOf, fldA, ldA, stA, entAt, partA, takeN, over, leafOk, Value.oneCell', idxA, nilA, cellsEq, fillA, elemsA, pure1, pure2, reps, chkA, tys, Try.results21, KX_draw, KX_drawQ, KX_tail, lastO_one, lastO_more, dropL_one, dropL_more, callP_eq, callM_true, e0, e1, e5, d1, coefsA, hc', hiw, h0]
      rw [hE]
    | false =>
      rw [if_neg (by rw [h0]; simp)] at hE
      simp (maxSteps := 1000000) +contextual (disch := first | with_reducible assumption | exact ⟨rfl⟩ | exact ⟨rfl, rfl⟩ | (refine _root_.id ?_; kernel_rfl) | omega) only [evs, ext_mv, nth, put, putT, getT, binInt, binStr, binBool, aUn, outA, resA, mapO, resA1, oneOf, w1, w2, w3, bots, cond_true, cond_false, if_true, if_false, ite_true, ite_false, reduceIte, reduceCtorEq, implies_true, Nat.reduceAdd, Nat.reduceSub, AV.int, AV.bool, AV.str, Nat.reduceBEq, Nat.reduceEqDiff, Nat.reduceMul, Nat.reduceLT, Nat.reduceLeDiff, Int.reduceNeg, BEq.rfl, beq_self_eq_true, tabl, cellsOf, fldA, ldA, stA, entAt, partA, takeN, over, leafOk, Value.oneCell', idxA, nilA, cellsEq, fillA, elemsA, pure1, pure2, reps, chkA, tys, Try.results21, KX_draw, KX_drawQ, KX_tail, lastO_one, lastO_more, dropL_one, dropL_more, callP_eq, callM_true, e0, e1, e5, d1, coefsA, hc', hiw, h0]
      exact IH (i + 1) _ (by first | omega | (simp only; omega)) ⟨rfl, by first | omega | (dsimp only; omega), hE, rfl, rfl, rfl, rfl⟩
  · have d1 : decide ((i : Int) < (pt.length : Int)) = false := by simpa using hlt
    have hie : i = pt.length := by omega
    rw [hie, List.drop_length] at hE
    simp (maxSteps := 1000000) +contextual (disch := first | with_reducible assumption | exact ⟨rfl⟩ | exact ⟨rfl, rfl⟩ | (refine _root_.id ?_; kernel_rfl) | omega) only [evs, ext_mv, nth, put, putT, getT, binInt, binStr, binBool, aUn, outA, resA, mapO, resA1, oneOf, w1, w2, w3, bots, cond_true, cond_false, if_true, if_false, ite_true, ite_false, reduceIte, reduceCtorEq, implies_true, Nat.reduceAdd, Nat.reduceSub, AV.int, AV.bool, AV.str, Nat.reduceBEq, Nat.reduceEqDiff, Nat.reduceMul, Nat.reduceLT, Nat.reduceLeDiff, Int.reduceNeg, BEq.rfl, beq_self_eq_true, tabl, cellsOf, fldA, ldA, stA, entAt, partA, takeN, over, leafOk, Value.oneCell', idxA, nilA, cellsEq, fillA, elemsA, pure1, pure2, reps, chkA, tys, Try.results21, KX_draw, KX_drawQ, KX_tail, lastO_one, lastO_more, dropL_one, dropL_more, callP_eq, callM_true, e0, e1, e5, d1, coefsA]
    rw [hE]; rfl
theorem models_coordinate (pt : Pt) (name : ByteArray) (hlen : pt.length ≤ 1048576) : cL Try.prog 27 [coefsA pt, .str name] S tk k = some (.int (findS name pt), S, tk, k) := by
  refine call_pure Try.func27 rfl rfl (by decide +kernel) (by decide +kernel) Try.ntmps27 rfl rfl _ _ _ rfl ?_; rw [RK_KX]
  simp (maxSteps := 1000000) +contextual (disch := first | with_reducible assumption | exact ⟨rfl⟩ | exact ⟨rfl, rfl⟩ | (refine _root_.id ?_; kernel_rfl) | omega) only [evs, ext_mv, nth, put, putT, getT, binInt, binStr, binBool, aUn, outA, resA, mapO, resA1, oneOf, w1, w2, w3, bots, cond_true, cond_false, if_true, if_false, ite_true, ite_false, reduceIte, reduceCtorEq, implies_true, Nat.reduceAdd, Nat.reduceSub, AV.int, AV.bool, AV.str, Nat.reduceBEq, Nat.reduceEqDiff, Nat.reduceMul, Nat.reduceLT, Nat.reduceLeDiff, Int.reduceNeg, BEq.rfl, beq_self_eq_true, tabl, cellsOf, fldA, ldA, stA, entAt, partA, takeN, over, leafOk, Value.oneCell', idxA, nilA, cellsEq, fillA, elemsA, pure1, pure2, reps, chkA, tys, Try.results27, KX_draw, KX_drawQ, KX_tail, lastO_one, lastO_more, dropL_one, dropL_more, callP_eq, callM_true, coefsA]
  refine loop1 (P := Try.prog) (fun x st => st.T.length = 20 ∧ (x ≤ pt.length) ∧ (findS name pt = findS name (pt.drop x)) ∧ getT st.T 0 = coefsA pt ∧ getT st.T 1 = .str name ∧ getT st.T 7 = coefsA pt ∧ getT st.T 8 = .int pt.length ∧ getT st.T 9 = .int (x : Nat) ∧ st.S = []) (fun x => pt.length - x) (fun x => .int (findS name pt)) (0) ?_ ?_
  case refine_2 => exact ⟨rfl, Nat.zero_le _, rfl, rfl, rfl, rfl, rfl, rfl, rfl⟩
  rintro i ⟨T, S', tk', n'⟩ ⟨hl, hi, hE, e0, e1, e7, e8, e9, eS⟩ IH
  subst eS
  obtain ⟨g, hg, hT⟩ := tab_of hl
  rw [hg] at e0 e1 e7 e8 e9
  subst hT
  clear hg hl
  have hiw := wrap_add (i := i) (m := 0) (by omega)
  by_cases hlt : i < pt.length
  · have d1 : decide ((i : Int) < (pt.length : Int)) = true := by simpa using hlt
    obtain ⟨c, hc⟩ := nth_some hlt
    have hc' : nth (pt.map coefC) i = some (coefC c) := by rw [nth_map, hc]; rfl
    simp only [coefC] at hc'
    rw [nth_drop hc, findS] at hE
    cases h0 : sEq c.1 name with
    | true =>
      rw [if_pos h0] at hE
      simp (maxSteps := 1000000) +contextual (disch := first | with_reducible assumption | exact ⟨rfl⟩ | exact ⟨rfl, rfl⟩ | (refine _root_.id ?_; kernel_rfl) | omega) only [evs, ext_mv, nth, put, putT, getT, binInt, binStr, binBool, aUn, outA, resA, mapO, resA1, oneOf, w1, w2, w3, bots, cond_true, cond_false, if_true, if_false, ite_true, ite_false, reduceIte, reduceCtorEq, implies_true, Nat.reduceAdd, Nat.reduceSub, AV.int, AV.bool, AV.str, Nat.reduceBEq, Nat.reduceEqDiff, Nat.reduceMul, Nat.reduceLT, Nat.reduceLeDiff, Int.reduceNeg, BEq.rfl, beq_self_eq_true, tabl, cellsOf, fldA, ldA, stA, entAt, partA, takeN, over, leafOk, Value.oneCell', idxA, nilA, cellsEq, fillA, elemsA, pure1, pure2, reps, chkA, tys, Try.results27, KX_draw, KX_drawQ, KX_tail, lastO_one, lastO_more, dropL_one, dropL_more, callP_eq, callM_true, e0, e1, e7, e8, e9, d1, coefsA, hc', hiw, h0]
      rw [hE]
    | false =>
      rw [if_neg (by rw [h0]; simp)] at hE
      simp (maxSteps := 1000000) +contextual (disch := first | with_reducible assumption | exact ⟨rfl⟩ | exact ⟨rfl, rfl⟩ | (refine _root_.id ?_; kernel_rfl) | omega) only [evs, ext_mv, nth, put, putT, getT, binInt, binStr, binBool, aUn, outA, resA, mapO, resA1, oneOf, w1, w2, w3, bots, cond_true, cond_false, if_true, if_false, ite_true, ite_false, reduceIte, reduceCtorEq, implies_true, Nat.reduceAdd, Nat.reduceSub, AV.int, AV.bool, AV.str, Nat.reduceBEq, Nat.reduceEqDiff, Nat.reduceMul, Nat.reduceLT, Nat.reduceLeDiff, Int.reduceNeg, BEq.rfl, beq_self_eq_true, tabl, cellsOf, fldA, ldA, stA, entAt, partA, takeN, over, leafOk, Value.oneCell', idxA, nilA, cellsEq, fillA, elemsA, pure1, pure2, reps, chkA, tys, Try.results27, KX_draw, KX_drawQ, KX_tail, lastO_one, lastO_more, dropL_one, dropL_more, callP_eq, callM_true, e0, e1, e7, e8, e9, d1, coefsA, hc', hiw, h0]
      exact IH (i + 1) _ (by first | omega | (simp only; omega)) ⟨rfl, by first | omega | (dsimp only; omega), hE, rfl, rfl, rfl, rfl, rfl, rfl⟩
  · have d1 : decide ((i : Int) < (pt.length : Int)) = false := by simpa using hlt
    have hie : i = pt.length := by omega
    rw [hie, List.drop_length] at hE
    simp (maxSteps := 1000000) +contextual (disch := first | with_reducible assumption | exact ⟨rfl⟩ | exact ⟨rfl, rfl⟩ | (refine _root_.id ?_; kernel_rfl) | omega) only [evs, ext_mv, nth, put, putT, getT, binInt, binStr, binBool, aUn, outA, resA, mapO, resA1, oneOf, w1, w2, w3, bots, cond_true, cond_false, if_true, if_false, ite_true, ite_false, reduceIte, reduceCtorEq, implies_true, Nat.reduceAdd, Nat.reduceSub, AV.int, AV.bool, AV.str, Nat.reduceBEq, Nat.reduceEqDiff, Nat.reduceMul, Nat.reduceLT, Nat.reduceLeDiff, Int.reduceNeg, BEq.rfl, beq_self_eq_true, tabl, cellsOf, fldA, ldA, stA, entAt, partA, takeN, over, leafOk, Value.oneCell', idxA, nilA, cellsEq, fillA, elemsA, pure1, pure2, reps, chkA, tys, Try.results27, KX_draw, KX_drawQ, KX_tail, lastO_one, lastO_more, dropL_one, dropL_more, callP_eq, callM_true, e0, e1, e7, e8, e9, d1, coefsA]
    rw [hE]; rfl
theorem models_size (n : Int) (hn : i64 n) : cL Try.prog 46 [.int n] S tk k = some (.prim (.int .u64 (n.natAbs : Nat)), S, tk, k) := by
  unfold i64 at hn
  refine call_pure Try.func46 rfl rfl (by decide +kernel) (by decide +kernel) Try.ntmps46 rfl rfl _ _ _ rfl ?_; rw [RK_KX]
  have hw : n < 0 → IntKind.u64.wrap (0 - IntKind.u64.wrap n) = ((n.natAbs : Nat) : Int) := fun h => by
    simp only [IntKind.wrap, IntKind.bits, IntKind.signed]; simp; omega
  have hw2 : ¬ n < 0 → IntKind.u64.wrap n = ((n.natAbs : Nat) : Int) := fun h => by
    simp only [IntKind.wrap, IntKind.bits, IntKind.signed]; simp; omega
  by_cases h : n < 0
  · have d1 : decide (n < 0) = true := by simpa using h
    have hw := hw h
    simp (maxSteps := 1000000) +contextual (disch := first | with_reducible assumption | exact ⟨rfl⟩ | exact ⟨rfl, rfl⟩ | (refine _root_.id ?_; kernel_rfl) | omega) only [evs, ext_mv, nth, put, putT, getT, binInt, binStr, binBool, aUn, outA, resA, mapO, resA1, oneOf, w1, w2, w3, bots, cond_true, cond_false, if_true, if_false, ite_true, ite_false, reduceIte, reduceCtorEq, implies_true, Nat.reduceAdd, Nat.reduceSub, AV.int, AV.bool, AV.str, Nat.reduceBEq, Nat.reduceEqDiff, Nat.reduceMul, Nat.reduceLT, Nat.reduceLeDiff, Int.reduceNeg, BEq.rfl, beq_self_eq_true, tabl, cellsOf, fldA, ldA, stA, entAt, partA, takeN, over, leafOk, Value.oneCell', idxA, nilA, cellsEq, fillA, elemsA, pure1, pure2, reps, chkA, tys, Try.results46, KX_draw, KX_drawQ, KX_tail, lastO_one, lastO_more, dropL_one, dropL_more, callP_eq, callM_true, d1, hw]
  · have d1 : decide (n < 0) = false := by simpa using h
    have hw2 := hw2 h
    simp (maxSteps := 1000000) +contextual (disch := first | with_reducible assumption | exact ⟨rfl⟩ | exact ⟨rfl, rfl⟩ | (refine _root_.id ?_; kernel_rfl) | omega) only [evs, ext_mv, nth, put, putT, getT, binInt, binStr, binBool, aUn, outA, resA, mapO, resA1, oneOf, w1, w2, w3, bots, cond_true, cond_false, if_true, if_false, ite_true, ite_false, reduceIte, reduceCtorEq, implies_true, Nat.reduceAdd, Nat.reduceSub, AV.int, AV.bool, AV.str, Nat.reduceBEq, Nat.reduceEqDiff, Nat.reduceMul, Nat.reduceLT, Nat.reduceLeDiff, Int.reduceNeg, BEq.rfl, beq_self_eq_true, tabl, cellsOf, fldA, ldA, stA, entAt, partA, takeN, over, leafOk, Value.oneCell', idxA, nilA, cellsEq, fillA, elemsA, pure1, pure2, reps, chkA, tys, Try.results46, KX_draw, KX_drawQ, KX_tail, lastO_one, lastO_more, dropL_one, dropL_more, callP_eq, callM_true, d1, hw2]
theorem models_radius (pt : Pt) (hlen : pt.length ≤ 1048576) (hp : PtI pt) : cL Try.prog 26 [coefsA pt] S tk k = some (.prim (.int .u64 (radF pt : Nat)), S, tk, k) := by
  refine call_pure Try.func26 rfl rfl (by decide +kernel) (by decide +kernel) Try.ntmps26 rfl rfl _ _ _ rfl ?_; rw [RK_KX]
  simp (maxSteps := 1000000) +contextual (disch := first | with_reducible assumption | exact ⟨rfl⟩ | exact ⟨rfl, rfl⟩ | (refine _root_.id ?_; kernel_rfl) | omega) only [evs, ext_mv, nth, put, putT, getT, binInt, binStr, binBool, aUn, outA, resA, mapO, resA1, oneOf, w1, w2, w3, bots, cond_true, cond_false, if_true, if_false, ite_true, ite_false, reduceIte, reduceCtorEq, implies_true, Nat.reduceAdd, Nat.reduceSub, AV.int, AV.bool, AV.str, Nat.reduceBEq, Nat.reduceEqDiff, Nat.reduceMul, Nat.reduceLT, Nat.reduceLeDiff, Int.reduceNeg, BEq.rfl, beq_self_eq_true, tabl, cellsOf, fldA, ldA, stA, entAt, partA, takeN, over, leafOk, Value.oneCell', idxA, nilA, cellsEq, fillA, elemsA, pure1, pure2, reps, chkA, tys, Try.results26, KX_draw, KX_drawQ, KX_tail, lastO_one, lastO_more, dropL_one, dropL_more, callP_eq, callM_true, coefsA]
  refine loop1 (P := Try.prog) (fun x st => st.T.length = 21 ∧ (x.1 ≤ pt.length) ∧ (radF pt = radG pt x.2 (pt.drop x.1)) ∧ getT st.T 0 = coefsA pt ∧ getT st.T 3 = .prim (.int .u64 (x.2 : Nat)) ∧ getT st.T 6 = coefsA pt ∧ getT st.T 7 = .int pt.length ∧ getT st.T 8 = .int (x.1 : Nat) ∧ st.S = []) (fun x => pt.length - x.1) (fun x => .prim (.int .u64 (radF pt : Nat))) (0, 0) ?_ ?_
  case refine_2 => exact ⟨rfl, Nat.zero_le _, rfl, rfl, rfl, rfl, rfl, rfl, rfl⟩
  rintro ⟨i, m⟩ ⟨T, S', tk', n'⟩ ⟨hl, hi, hE, e0, e3, e6, e7, e8, eS⟩ IH
  simp only at hi hE e0 e3 e6 e7 e8 eS
  subst eS
  obtain ⟨g, hg, hT⟩ := tab_of hl
  rw [hg] at e0 e3 e6 e7 e8
  subst hT
  clear hg hl
  have hiw := wrap_add (i := i) (m := 0) (by omega)
  by_cases hlt : i < pt.length
  · have d1 : decide ((i : Int) < (pt.length : Int)) = true := by simpa using hlt
    obtain ⟨c, hc⟩ := nth_some hlt
    have hc' : nth (pt.map coefC) i = some (coefC c) := by rw [nth_map, hc]; rfl
    have hC := fun S tk k => models_coordinate S tk k pt c.1 hlen
    have hZ := fun S tk k => models_size S tk k (findS c.1 pt) (findS_i64 hp c.1)
    simp only [coefC] at hc'
    simp only [coefsA] at hC
    rw [nth_drop hc, radG] at hE
    have hm : (if (((findS c.1 pt).natAbs : Nat) : Int) > ((m : Nat) : Int) then (((findS c.1 pt).natAbs : Nat) : Int) else ((m : Nat) : Int)) = ((max m (findS c.1 pt).natAbs : Nat) : Int) := by
      split <;> omega
    simp (maxSteps := 1000000) +contextual (disch := first | with_reducible assumption | exact ⟨rfl⟩ | exact ⟨rfl, rfl⟩ | (refine _root_.id ?_; kernel_rfl) | omega) only [evs, ext_mv, nth, put, putT, getT, binInt, binStr, binBool, aUn, outA, resA, mapO, resA1, oneOf, w1, w2, w3, bots, cond_true, cond_false, if_true, if_false, ite_true, ite_false, reduceIte, reduceCtorEq, implies_true, Nat.reduceAdd, Nat.reduceSub, AV.int, AV.bool, AV.str, Nat.reduceBEq, Nat.reduceEqDiff, Nat.reduceMul, Nat.reduceLT, Nat.reduceLeDiff, Int.reduceNeg, BEq.rfl, beq_self_eq_true, tabl, cellsOf, fldA, ldA, stA, entAt, partA, takeN, over, leafOk, Value.oneCell', idxA, nilA, cellsEq, fillA, elemsA, pure1, pure2, reps, chkA, tys, Try.results26, KX_draw, KX_drawQ, KX_tail, lastO_one, lastO_more, dropL_one, dropL_more, callP_eq, callM_true, e0, e3, e6, e7, e8, d1, coefsA, hc', hiw, hC, hZ, maxA_k, hm]
    exact IH (i + 1, max m (findS c.1 pt).natAbs) _ (by first | omega | (simp only; omega)) ⟨rfl, by first | omega | (dsimp only; omega), hE, rfl, rfl, rfl, rfl, rfl, rfl⟩
  · have d1 : decide ((i : Int) < (pt.length : Int)) = false := by simpa using hlt
    have hie : i = pt.length := by omega
    rw [hie, List.drop_length] at hE
    simp (maxSteps := 1000000) +contextual (disch := first | with_reducible assumption | exact ⟨rfl⟩ | exact ⟨rfl, rfl⟩ | (refine _root_.id ?_; kernel_rfl) | omega) only [evs, ext_mv, nth, put, putT, getT, binInt, binStr, binBool, aUn, outA, resA, mapO, resA1, oneOf, w1, w2, w3, bots, cond_true, cond_false, if_true, if_false, ite_true, ite_false, reduceIte, reduceCtorEq, implies_true, Nat.reduceAdd, Nat.reduceSub, AV.int, AV.bool, AV.str, Nat.reduceBEq, Nat.reduceEqDiff, Nat.reduceMul, Nat.reduceLT, Nat.reduceLeDiff, Int.reduceNeg, BEq.rfl, beq_self_eq_true, tabl, cellsOf, fldA, ldA, stA, entAt, partA, takeN, over, leafOk, Value.oneCell', idxA, nilA, cellsEq, fillA, elemsA, pure1, pure2, reps, chkA, tys, Try.results26, KX_draw, KX_drawQ, KX_tail, lastO_one, lastO_more, dropL_one, dropL_more, callP_eq, callM_true, e0, e3, e6, e7, e8, d1, coefsA]
    rw [hE]; rfl
theorem models_before (a b : Int) (ha : i64 a) (hb : i64 b) : cL Try.prog 28 [.int a, .int b] S tk k = some (.bool (befF a b), S, tk, k) := by
  refine call_pure Try.func28 rfl rfl (by decide +kernel) (by decide +kernel) Try.ntmps28 rfl rfl _ _ _ rfl ?_; rw [RK_KX]
  have h1 := fun S tk k => models_size S tk k a ha
  have h2 := fun S tk k => models_size S tk k b hb
  by_cases h : a.natAbs = b.natAbs
  · have d1 : (((a.natAbs : Nat) : Int) != ((b.natAbs : Nat) : Int)) = false := by simp; omega
    simp (maxSteps := 1000000) +contextual (disch := first | with_reducible assumption | exact ⟨rfl⟩ | exact ⟨rfl, rfl⟩ | (refine _root_.id ?_; kernel_rfl) | omega) only [evs, ext_mv, nth, put, putT, getT, binInt, binStr, binBool, aUn, outA, resA, mapO, resA1, oneOf, w1, w2, w3, bots, cond_true, cond_false, if_true, if_false, ite_true, ite_false, reduceIte, reduceCtorEq, implies_true, Nat.reduceAdd, Nat.reduceSub, AV.int, AV.bool, AV.str, Nat.reduceBEq, Nat.reduceEqDiff, Nat.reduceMul, Nat.reduceLT, Nat.reduceLeDiff, Int.reduceNeg, BEq.rfl, beq_self_eq_true, tabl, cellsOf, fldA, ldA, stA, entAt, partA, takeN, over, leafOk, Value.oneCell', idxA, nilA, cellsEq, fillA, elemsA, pure1, pure2, reps, chkA, tys, Try.results28, KX_draw, KX_drawQ, KX_tail, lastO_one, lastO_more, dropL_one, dropL_more, callP_eq, callM_true, h1, h2, d1]
    simp [befF, h]
  · have d1 : (((a.natAbs : Nat) : Int) != ((b.natAbs : Nat) : Int)) = true := by simp; omega
    simp (maxSteps := 1000000) +contextual (disch := first | with_reducible assumption | exact ⟨rfl⟩ | exact ⟨rfl, rfl⟩ | (refine _root_.id ?_; kernel_rfl) | omega) only [evs, ext_mv, nth, put, putT, getT, binInt, binStr, binBool, aUn, outA, resA, mapO, resA1, oneOf, w1, w2, w3, bots, cond_true, cond_false, if_true, if_false, ite_true, ite_false, reduceIte, reduceCtorEq, implies_true, Nat.reduceAdd, Nat.reduceSub, AV.int, AV.bool, AV.str, Nat.reduceBEq, Nat.reduceEqDiff, Nat.reduceMul, Nat.reduceLT, Nat.reduceLeDiff, Int.reduceNeg, BEq.rfl, beq_self_eq_true, tabl, cellsOf, fldA, ldA, stA, entAt, partA, takeN, over, leafOk, Value.oneCell', idxA, nilA, cellsEq, fillA, elemsA, pure1, pure2, reps, chkA, tys, Try.results28, KX_draw, KX_drawQ, KX_tail, lastO_one, lastO_more, dropL_one, dropL_more, callP_eq, callM_true, h1, h2, d1]
    simp [befF, h]
end
end Go.Proofs.Ytcandeobhlfkbaa
