/-
  Texts laid together: Ty, UTree, UPlain, UExt, UBase, U1, U2, UPos.
-/
import Derived.Test.YtmkoiandfojgmaaGreatZM10
import Derived.Test.YtmkoiandfojgmaaGreatChecked
import Derived.IntWalk
namespace Go.Proofs.YtmkoiandfojgmaaGreat
theorem mixed : Tryz.prog.follows .mixedOrders = true := by kernel_rfl
set_option maxRecDepth 100000 in
theorem tys :
    szOf Tryz.prog 1 = some 1 ∧
    aggT Tryz.prog 1 = some false ∧
    zeroOf Tryz.prog 1 = some [.prim .nilFunc] ∧
    isStr Tryz.prog 1 = false ∧
    szOf Tryz.prog 2 = some 1 ∧
    aggT Tryz.prog 2 = some false ∧
    zeroOf Tryz.prog 2 = some [.prim (.int .i64 0)] ∧
    intOfT Tryz.prog 2 = some .i64 ∧
    isStr Tryz.prog 2 = false ∧
    szOf Tryz.prog 3 = some 1 ∧
    aggT Tryz.prog 3 = some false ∧
    zeroOf Tryz.prog 3 = some [.prim (.int .i64 0)] ∧
    intOfT Tryz.prog 3 = some .i64 ∧
    isStr Tryz.prog 3 = false ∧
    szOf Tryz.prog 4 = some 1 ∧
    aggT Tryz.prog 4 = some false ∧
    zeroOf Tryz.prog 4 = some [.prim (.bool false)] ∧
    isStr Tryz.prog 4 = false ∧
    isBool Tryz.prog 4 = true ∧
    szOf Tryz.prog 5 = some 1 ∧
    aggT Tryz.prog 5 = some false ∧
    zeroOf Tryz.prog 5 = some [.prim (.int .u8 0)] ∧
    intOfT Tryz.prog 5 = some .u8 ∧
    isStr Tryz.prog 5 = false ∧
    szOf Tryz.prog 9 = some 1 ∧
    aggT Tryz.prog 9 = some false ∧
    zeroOf Tryz.prog 9 = some [.prim (.string ⟨#[]⟩)] ∧
    isStr Tryz.prog 9 = true ∧
    szOf Tryz.prog 12 = some 1 ∧
    aggT Tryz.prog 12 = some false ∧
    zeroOf Tryz.prog 12 = some [.prim (.int .u64 0)] ∧
    intOfT Tryz.prog 12 = some .u64 ∧
    isStr Tryz.prog 12 = false ∧
    szOf Tryz.prog 20 = some 1 ∧
    aggT Tryz.prog 20 = some false ∧
    zeroOf Tryz.prog 20 = some [.prim .nilIface] ∧
    isStr Tryz.prog 20 = false ∧
    szOf Tryz.prog 21 = some 1 ∧
    aggT Tryz.prog 21 = some false ∧
    zeroOf Tryz.prog 21 = some [.prim (.int .i32 0)] ∧
    intOfT Tryz.prog 21 = some .i32 ∧
    isStr Tryz.prog 21 = false ∧
    szOf Tryz.prog 22 = some 1 ∧
    aggT Tryz.prog 22 = some false ∧
    zeroOf Tryz.prog 22 = some [.frz [] .nilc] ∧
    elemOf Tryz.prog 22 = some 78 ∧
    apT Tryz.prog 22 = some 4 ∧
    isStr Tryz.prog 22 = false ∧
    szOf Tryz.prog 23 = some 1 ∧
    aggT Tryz.prog 23 = some false ∧
    zeroOf Tryz.prog 23 = some [.frz [] .nilc] ∧
    elemOf Tryz.prog 23 = some 85 ∧
    isStr Tryz.prog 23 = false ∧
    szOf Tryz.prog 24 = some 1 ∧
    aggT Tryz.prog 24 = some false ∧
    zeroOf Tryz.prog 24 = some [.frz [] .nilc] ∧
    elemOf Tryz.prog 24 = some 58 ∧
    apT Tryz.prog 24 = some 12 ∧
    isStr Tryz.prog 24 = false ∧
    szOf Tryz.prog 25 = some 1 ∧
    aggT Tryz.prog 25 = some false ∧
    zeroOf Tryz.prog 25 = some [.frz [] .nilc] ∧
    elemOf Tryz.prog 25 = some 181 ∧
    apT Tryz.prog 25 = some 8 ∧
    isStr Tryz.prog 25 = false ∧
    szOf Tryz.prog 26 = some 1 ∧
    aggT Tryz.prog 26 = some false ∧
    zeroOf Tryz.prog 26 = some [.frz [] .nilc] ∧
    elemOf Tryz.prog 26 = some 183 ∧
    apT Tryz.prog 26 = some 6 ∧
    isStr Tryz.prog 26 = false ∧
    szOf Tryz.prog 27 = some 1 ∧
    aggT Tryz.prog 27 = some false ∧
    zeroOf Tryz.prog 27 = some [.frz [] .nilc] ∧
    elemOf Tryz.prog 27 = some 65 ∧
    apT Tryz.prog 27 = some 25 ∧
    isStr Tryz.prog 27 = false ∧
    szOf Tryz.prog 28 = some 6 ∧
    aggT Tryz.prog 28 = some true ∧
    zeroOf Tryz.prog 28 = some [.frz [] .nilc, .frz [] .nilc, .frz [] .nilc, .frz [] .nilc, .frz [] .nilc, .frz [] .nilc] ∧
    isStr Tryz.prog 28 = false ∧
    fieldOf Tryz.prog 28 0 = some (0, 1, false) ∧
    fieldOf Tryz.prog 28 1 = some (1, 1, false) ∧
    fieldOf Tryz.prog 28 2 = some (2, 1, false) ∧
    fieldOf Tryz.prog 28 3 = some (3, 1, false) ∧
    fieldOf Tryz.prog 28 4 = some (4, 1, false) ∧
    fieldOf Tryz.prog 28 5 = some (5, 1, false) ∧
    fieldsOf Tryz.prog 28 = some [(0, 1), (1, 1), (2, 1), (3, 1), (4, 1), (5, 1)] ∧
    szOf Tryz.prog 29 = some 6 ∧
    aggT Tryz.prog 29 = some true ∧
    zeroOf Tryz.prog 29 = some [.frz [] .nilc, .frz [] .nilc, .frz [] .nilc, .frz [] .nilc, .frz [] .nilc, .frz [] .nilc] ∧
    isStr Tryz.prog 29 = false ∧
    fieldOf Tryz.prog 29 0 = some (0, 1, false) ∧
    fieldOf Tryz.prog 29 1 = some (1, 1, false) ∧
    fieldOf Tryz.prog 29 2 = some (2, 1, false) ∧
    fieldOf Tryz.prog 29 3 = some (3, 1, false) ∧
    fieldOf Tryz.prog 29 4 = some (4, 1, false) ∧
    fieldOf Tryz.prog 29 5 = some (5, 1, false) ∧
    fieldsOf Tryz.prog 29 = some [(0, 1), (1, 1), (2, 1), (3, 1), (4, 1), (5, 1)] ∧
    szOf Tryz.prog 30 = some 1 ∧
    aggT Tryz.prog 30 = some false ∧
    zeroOf Tryz.prog 30 = some [.prim .nilFunc] ∧
    isStr Tryz.prog 30 = false ∧
    szOf Tryz.prog 31 = some 1 ∧
    aggT Tryz.prog 31 = some false ∧
    zeroOf Tryz.prog 31 = some [.prim .nilFunc] ∧
    isStr Tryz.prog 31 = false ∧
    szOf Tryz.prog 32 = some 1 ∧
    aggT Tryz.prog 32 = some false ∧
    zeroOf Tryz.prog 32 = some [.prim (.int .i64 0)] ∧
    intOfT Tryz.prog 32 = some .i64 ∧
    isStr Tryz.prog 32 = false ∧
    szOf Tryz.prog 34 = some 1 ∧
    aggT Tryz.prog 34 = some false ∧
    zeroOf Tryz.prog 34 = some [.prim .nilFunc] ∧
    isStr Tryz.prog 34 = false ∧
    szOf Tryz.prog 35 = some 1 ∧
    aggT Tryz.prog 35 = some false ∧
    zeroOf Tryz.prog 35 = some [.prim (.int .i64 0)] ∧
    intOfT Tryz.prog 35 = some .i64 ∧
    isStr Tryz.prog 35 = false ∧
    szOf Tryz.prog 36 = some 1 ∧
    aggT Tryz.prog 36 = some false ∧
    zeroOf Tryz.prog 36 = some [.frz [] .nilc] ∧
    elemOf Tryz.prog 36 = some 41 ∧
    apT Tryz.prog 36 = some 7 ∧
    isStr Tryz.prog 36 = false ∧
    szOf Tryz.prog 37 = some 1 ∧
    aggT Tryz.prog 37 = some false ∧
    zeroOf Tryz.prog 37 = some [.frz [] .nilc] ∧
    elemOf Tryz.prog 37 = some 70 ∧
    apT Tryz.prog 37 = some 10 ∧
    isStr Tryz.prog 37 = false ∧
    szOf Tryz.prog 38 = some 1 ∧
    aggT Tryz.prog 38 = some false ∧
    zeroOf Tryz.prog 38 = some [.frz [] .nilc] ∧
    elemOf Tryz.prog 38 = some 94 ∧
    apT Tryz.prog 38 = some 9 ∧
    isStr Tryz.prog 38 = false ∧
    szOf Tryz.prog 39 = some 1 ∧
    aggT Tryz.prog 39 = some false ∧
    zeroOf Tryz.prog 39 = some [.frz [] .nilc] ∧
    elemOf Tryz.prog 39 = some 55 ∧
    apT Tryz.prog 39 = some 9 ∧
    isStr Tryz.prog 39 = false ∧
    szOf Tryz.prog 40 = some 7 ∧
    aggT Tryz.prog 40 = some true ∧
    zeroOf Tryz.prog 40 = some [.prim (.int .i64 0), .prim (.string ⟨#[]⟩), .prim (.int .i64 0), .frz [] .nilc, .frz [] .nilc, .frz [] .nilc, .frz [] .nilc] ∧
    isStr Tryz.prog 40 = false ∧
    fieldOf Tryz.prog 40 0 = some (0, 1, false) ∧
    fieldOf Tryz.prog 40 1 = some (1, 1, false) ∧
    fieldOf Tryz.prog 40 2 = some (2, 1, false) ∧
    fieldOf Tryz.prog 40 3 = some (3, 1, false) ∧
    fieldOf Tryz.prog 40 4 = some (4, 1, false) ∧
    fieldOf Tryz.prog 40 5 = some (5, 1, false) ∧
    fieldOf Tryz.prog 40 6 = some (6, 1, false) ∧
    fieldsOf Tryz.prog 40 = some [(0, 1), (1, 1), (2, 1), (3, 1), (4, 1), (5, 1), (6, 1)] ∧
    szOf Tryz.prog 41 = some 7 ∧
    aggT Tryz.prog 41 = some true ∧
    zeroOf Tryz.prog 41 = some [.prim (.int .i64 0), .prim (.string ⟨#[]⟩), .prim (.int .i64 0), .frz [] .nilc, .frz [] .nilc, .frz [] .nilc, .frz [] .nilc] ∧
    isStr Tryz.prog 41 = false ∧
    fieldOf Tryz.prog 41 0 = some (0, 1, false) ∧
    fieldOf Tryz.prog 41 1 = some (1, 1, false) ∧
    fieldOf Tryz.prog 41 2 = some (2, 1, false) ∧
    fieldOf Tryz.prog 41 3 = some (3, 1, false) ∧
    fieldOf Tryz.prog 41 4 = some (4, 1, false) ∧
    fieldOf Tryz.prog 41 5 = some (5, 1, false) ∧
    fieldOf Tryz.prog 41 6 = some (6, 1, false) ∧
    fieldsOf Tryz.prog 41 = some [(0, 1), (1, 1), (2, 1), (3, 1), (4, 1), (5, 1), (6, 1)] ∧
    szOf Tryz.prog 42 = some 1 ∧
    aggT Tryz.prog 42 = some false ∧
    zeroOf Tryz.prog 42 = some [.prim .nilFunc] ∧
    isStr Tryz.prog 42 = false ∧
    szOf Tryz.prog 43 = some 1 ∧
    aggT Tryz.prog 43 = some false ∧
    zeroOf Tryz.prog 43 = some [.prim .nilFunc] ∧
    isStr Tryz.prog 43 = false ∧
    szOf Tryz.prog 44 = some 1 ∧
    aggT Tryz.prog 44 = some false ∧
    zeroOf Tryz.prog 44 = some [.frz [] .nilc] ∧
    elemOf Tryz.prog 44 = some 9 ∧
    apT Tryz.prog 44 = some 1 ∧
    isStr Tryz.prog 44 = false ∧
    szOf Tryz.prog 45 = some 1 ∧
    aggT Tryz.prog 45 = some false ∧
    zeroOf Tryz.prog 45 = some [.prim .nilFunc] ∧
    isStr Tryz.prog 45 = false ∧
    szOf Tryz.prog 46 = some 1 ∧
    aggT Tryz.prog 46 = some false ∧
    zeroOf Tryz.prog 46 = some [.prim .nilFunc] ∧
    isStr Tryz.prog 46 = false ∧
    szOf Tryz.prog 47 = some 1 ∧
    aggT Tryz.prog 47 = some false ∧
    zeroOf Tryz.prog 47 = some [.prim .nilFunc] ∧
    isStr Tryz.prog 47 = false ∧
    szOf Tryz.prog 48 = some 1 ∧
    aggT Tryz.prog 48 = some false ∧
    zeroOf Tryz.prog 48 = some [.prim .nilFunc] ∧
    isStr Tryz.prog 48 = false ∧
    szOf Tryz.prog 49 = some 1 ∧
    aggT Tryz.prog 49 = some false ∧
    zeroOf Tryz.prog 49 = some [.prim (.int .i64 0)] ∧
    intOfT Tryz.prog 49 = some .i64 ∧
    isStr Tryz.prog 49 = false ∧
    szOf Tryz.prog 50 = some 1 ∧
    aggT Tryz.prog 50 = some false ∧
    zeroOf Tryz.prog 50 = some [.prim (.int .i64 0)] ∧
    intOfT Tryz.prog 50 = some .i64 ∧
    isStr Tryz.prog 50 = false ∧
    szOf Tryz.prog 51 = some 1 ∧
    aggT Tryz.prog 51 = some false ∧
    zeroOf Tryz.prog 51 = some [.frz [] .nilc] ∧
    elemOf Tryz.prog 51 = some 53 ∧
    apT Tryz.prog 51 = some 4 ∧
    isStr Tryz.prog 51 = false ∧
    szOf Tryz.prog 52 = some 4 ∧
    aggT Tryz.prog 52 = some true ∧
    zeroOf Tryz.prog 52 = some [.prim (.int .i64 0), .prim (.string ⟨#[]⟩), .prim (.int .i64 0), .frz [] .nilc] ∧
    isStr Tryz.prog 52 = false ∧
    fieldOf Tryz.prog 52 0 = some (0, 1, false) ∧
    fieldOf Tryz.prog 52 1 = some (1, 1, false) ∧
    fieldOf Tryz.prog 52 2 = some (2, 1, false) ∧
    fieldOf Tryz.prog 52 3 = some (3, 1, false) ∧
    fieldsOf Tryz.prog 52 = some [(0, 1), (1, 1), (2, 1), (3, 1)] ∧
    szOf Tryz.prog 53 = some 4 ∧
    aggT Tryz.prog 53 = some true ∧
    zeroOf Tryz.prog 53 = some [.prim (.int .i64 0), .prim (.string ⟨#[]⟩), .prim (.int .i64 0), .frz [] .nilc] ∧
    isStr Tryz.prog 53 = false ∧
    fieldOf Tryz.prog 53 0 = some (0, 1, false) ∧
    fieldOf Tryz.prog 53 1 = some (1, 1, false) ∧
    fieldOf Tryz.prog 53 2 = some (2, 1, false) ∧
    fieldOf Tryz.prog 53 3 = some (3, 1, false) ∧
    fieldsOf Tryz.prog 53 = some [(0, 1), (1, 1), (2, 1), (3, 1)] ∧
    szOf Tryz.prog 54 = some 9 ∧
    aggT Tryz.prog 54 = some true ∧
    zeroOf Tryz.prog 54 = some [.prim (.int .i64 0), .prim (.string ⟨#[]⟩), .frz [] .nilc, .frz [] .nilc, .prim (.int .i64 0), .prim (.string ⟨#[]⟩), .prim (.int .i64 0), .frz [] .nilc, .frz [] .nilc] ∧
    isStr Tryz.prog 54 = false ∧
    fieldOf Tryz.prog 54 0 = some (0, 1, false) ∧
    fieldOf Tryz.prog 54 1 = some (1, 1, false) ∧
    fieldOf Tryz.prog 54 2 = some (2, 1, false) ∧
    fieldOf Tryz.prog 54 3 = some (3, 1, false) ∧
    fieldOf Tryz.prog 54 4 = some (4, 4, true) ∧
    fieldOf Tryz.prog 54 5 = some (8, 1, false) ∧
    fieldsOf Tryz.prog 54 = some [(0, 1), (1, 1), (2, 1), (3, 1), (4, 4), (8, 1)] ∧
    szOf Tryz.prog 55 = some 9 ∧
    aggT Tryz.prog 55 = some true ∧
    zeroOf Tryz.prog 55 = some [.prim (.int .i64 0), .prim (.string ⟨#[]⟩), .frz [] .nilc, .frz [] .nilc, .prim (.int .i64 0), .prim (.string ⟨#[]⟩), .prim (.int .i64 0), .frz [] .nilc, .frz [] .nilc] ∧
    isStr Tryz.prog 55 = false ∧
    fieldOf Tryz.prog 55 0 = some (0, 1, false) ∧
    fieldOf Tryz.prog 55 1 = some (1, 1, false) ∧
    fieldOf Tryz.prog 55 2 = some (2, 1, false) ∧
    fieldOf Tryz.prog 55 3 = some (3, 1, false) ∧
    fieldOf Tryz.prog 55 4 = some (4, 4, true) ∧
    fieldOf Tryz.prog 55 5 = some (8, 1, false) ∧
    fieldsOf Tryz.prog 55 = some [(0, 1), (1, 1), (2, 1), (3, 1), (4, 4), (8, 1)] ∧
    szOf Tryz.prog 56 = some 1 ∧
    aggT Tryz.prog 56 = some false ∧
    zeroOf Tryz.prog 56 = some [.frz [] .nilc] ∧
    elemOf Tryz.prog 56 = some 185 ∧
    apT Tryz.prog 56 = some 2 ∧
    isStr Tryz.prog 56 = false ∧
    szOf Tryz.prog 57 = some 12 ∧
    aggT Tryz.prog 57 = some true ∧
    zeroOf Tryz.prog 57 = some [.prim (.string ⟨#[]⟩), .prim (.int .i64 0), .prim (.string ⟨#[]⟩), .frz [] .nilc, .frz [] .nilc, .prim (.int .i64 0), .prim (.string ⟨#[]⟩), .prim (.int .i64 0), .frz [] .nilc, .frz [] .nilc, .frz [] .nilc, .frz [] .nilc] ∧
    isStr Tryz.prog 57 = false ∧
    fieldOf Tryz.prog 57 0 = some (0, 1, false) ∧
    fieldOf Tryz.prog 57 1 = some (1, 9, true) ∧
    fieldOf Tryz.prog 57 2 = some (10, 1, false) ∧
    fieldOf Tryz.prog 57 3 = some (11, 1, false) ∧
    fieldsOf Tryz.prog 57 = some [(0, 1), (1, 9), (10, 1), (11, 1)] ∧
    szOf Tryz.prog 58 = some 12 ∧
    aggT Tryz.prog 58 = some true ∧
    zeroOf Tryz.prog 58 = some [.prim (.string ⟨#[]⟩), .prim (.int .i64 0), .prim (.string ⟨#[]⟩), .frz [] .nilc, .frz [] .nilc, .prim (.int .i64 0), .prim (.string ⟨#[]⟩), .prim (.int .i64 0), .frz [] .nilc, .frz [] .nilc, .frz [] .nilc, .frz [] .nilc] ∧
    isStr Tryz.prog 58 = false ∧
    fieldOf Tryz.prog 58 0 = some (0, 1, false) ∧
    fieldOf Tryz.prog 58 1 = some (1, 9, true) ∧
    fieldOf Tryz.prog 58 2 = some (10, 1, false) ∧
    fieldOf Tryz.prog 58 3 = some (11, 1, false) ∧
    fieldsOf Tryz.prog 58 = some [(0, 1), (1, 9), (10, 1), (11, 1)] ∧
    szOf Tryz.prog 59 = some 1 ∧
    aggT Tryz.prog 59 = some false ∧
    zeroOf Tryz.prog 59 = some [.prim (.int .i64 0)] ∧
    intOfT Tryz.prog 59 = some .i64 ∧
    isStr Tryz.prog 59 = false ∧
    szOf Tryz.prog 60 = some 1 ∧
    aggT Tryz.prog 60 = some false ∧
    zeroOf Tryz.prog 60 = some [.frz [] .nilc] ∧
    elemOf Tryz.prog 60 = some 187 ∧
    apT Tryz.prog 60 = some 2 ∧
    isStr Tryz.prog 60 = false ∧
    szOf Tryz.prog 61 = some 1 ∧
    aggT Tryz.prog 61 = some false ∧
    zeroOf Tryz.prog 61 = some [.frz [] .nilc] ∧
    elemOf Tryz.prog 61 = some 189 ∧
    apT Tryz.prog 61 = some 10 ∧
    isStr Tryz.prog 61 = false ∧
    szOf Tryz.prog 62 = some 14 ∧
    aggT Tryz.prog 62 = some true ∧
    zeroOf Tryz.prog 62 = some [.frz [] .nilc, .frz [] .nilc, .frz [] .nilc, .frz [] .nilc, .prim (.int .i64 0), .prim (.string ⟨#[]⟩), .frz [] .nilc, .frz [] .nilc, .prim (.int .i64 0), .prim (.string ⟨#[]⟩), .prim (.int .i64 0), .frz [] .nilc, .frz [] .nilc, .frz [] .nilc] ∧
    isStr Tryz.prog 62 = false ∧
    fieldOf Tryz.prog 62 0 = some (0, 1, false) ∧
    fieldOf Tryz.prog 62 1 = some (1, 1, false) ∧
    fieldOf Tryz.prog 62 2 = some (2, 1, false) ∧
    fieldOf Tryz.prog 62 3 = some (3, 1, false) ∧
    fieldOf Tryz.prog 62 4 = some (4, 9, true) ∧
    fieldOf Tryz.prog 62 5 = some (13, 1, false) ∧
    fieldsOf Tryz.prog 62 = some [(0, 1), (1, 1), (2, 1), (3, 1), (4, 9), (13, 1)] ∧
    szOf Tryz.prog 63 = some 14 ∧
    aggT Tryz.prog 63 = some true ∧
    zeroOf Tryz.prog 63 = some [.frz [] .nilc, .frz [] .nilc, .frz [] .nilc, .frz [] .nilc, .prim (.int .i64 0), .prim (.string ⟨#[]⟩), .frz [] .nilc, .frz [] .nilc, .prim (.int .i64 0), .prim (.string ⟨#[]⟩), .prim (.int .i64 0), .frz [] .nilc, .frz [] .nilc, .frz [] .nilc] ∧
    isStr Tryz.prog 63 = false ∧
    fieldOf Tryz.prog 63 0 = some (0, 1, false) ∧
    fieldOf Tryz.prog 63 1 = some (1, 1, false) ∧
    fieldOf Tryz.prog 63 2 = some (2, 1, false) ∧
    fieldOf Tryz.prog 63 3 = some (3, 1, false) ∧
    fieldOf Tryz.prog 63 4 = some (4, 9, true) ∧
    fieldOf Tryz.prog 63 5 = some (13, 1, false) ∧
    fieldsOf Tryz.prog 63 = some [(0, 1), (1, 1), (2, 1), (3, 1), (4, 9), (13, 1)] ∧
    szOf Tryz.prog 64 = some 25 ∧
    aggT Tryz.prog 64 = some true ∧
    zeroOf Tryz.prog 64 = some [.prim (.string ⟨#[]⟩), .frz [] .nilc, .prim (.int .i64 0), .prim (.string ⟨#[]⟩), .prim (.int .i64 0), .frz [] .nilc, .frz [] .nilc, .frz [] .nilc, .frz [] .nilc, .prim (.int .i64 0), .prim (.bool false), .frz [] .nilc, .frz [] .nilc, .frz [] .nilc, .frz [] .nilc, .prim (.int .i64 0), .prim (.string ⟨#[]⟩), .frz [] .nilc, .frz [] .nilc, .prim (.int .i64 0), .prim (.string ⟨#[]⟩), .prim (.int .i64 0), .frz [] .nilc, .frz [] .nilc, .frz [] .nilc] ∧
    isStr Tryz.prog 64 = false ∧
    fieldOf Tryz.prog 64 0 = some (0, 1, false) ∧
    fieldOf Tryz.prog 64 1 = some (1, 1, false) ∧
    fieldOf Tryz.prog 64 2 = some (2, 7, true) ∧
    fieldOf Tryz.prog 64 3 = some (9, 1, false) ∧
    fieldOf Tryz.prog 64 4 = some (10, 1, false) ∧
    fieldOf Tryz.prog 64 5 = some (11, 14, true) ∧
    fieldsOf Tryz.prog 64 = some [(0, 1), (1, 1), (2, 7), (9, 1), (10, 1), (11, 14)] ∧
    szOf Tryz.prog 65 = some 25 ∧
    aggT Tryz.prog 65 = some true ∧
    zeroOf Tryz.prog 65 = some [.prim (.string ⟨#[]⟩), .frz [] .nilc, .prim (.int .i64 0), .prim (.string ⟨#[]⟩), .prim (.int .i64 0), .frz [] .nilc, .frz [] .nilc, .frz [] .nilc, .frz [] .nilc, .prim (.int .i64 0), .prim (.bool false), .frz [] .nilc, .frz [] .nilc, .frz [] .nilc, .frz [] .nilc, .prim (.int .i64 0), .prim (.string ⟨#[]⟩), .frz [] .nilc, .frz [] .nilc, .prim (.int .i64 0), .prim (.string ⟨#[]⟩), .prim (.int .i64 0), .frz [] .nilc, .frz [] .nilc, .frz [] .nilc] ∧
    isStr Tryz.prog 65 = false ∧
    fieldOf Tryz.prog 65 0 = some (0, 1, false) ∧
    fieldOf Tryz.prog 65 1 = some (1, 1, false) ∧
    fieldOf Tryz.prog 65 2 = some (2, 7, true) ∧
    fieldOf Tryz.prog 65 3 = some (9, 1, false) ∧
    fieldOf Tryz.prog 65 4 = some (10, 1, false) ∧
    fieldOf Tryz.prog 65 5 = some (11, 14, true) ∧
    fieldsOf Tryz.prog 65 = some [(0, 1), (1, 1), (2, 7), (9, 1), (10, 1), (11, 14)] ∧
    szOf Tryz.prog 66 = some 1 ∧
    aggT Tryz.prog 66 = some false ∧
    zeroOf Tryz.prog 66 = some [.prim .nilFunc] ∧
    isStr Tryz.prog 66 = false ∧
    szOf Tryz.prog 67 = some 1 ∧
    aggT Tryz.prog 67 = some false ∧
    zeroOf Tryz.prog 67 = some [.prim .nilFunc] ∧
    isStr Tryz.prog 67 = false ∧
    szOf Tryz.prog 68 = some 1 ∧
    aggT Tryz.prog 68 = some false ∧
    zeroOf Tryz.prog 68 = some [.prim .nilFunc] ∧
    isStr Tryz.prog 68 = false ∧
    szOf Tryz.prog 69 = some 10 ∧
    aggT Tryz.prog 69 = some true ∧
    zeroOf Tryz.prog 69 = some [.prim (.string ⟨#[]⟩), .prim (.int .i64 0), .prim (.string ⟨#[]⟩), .frz [] .nilc, .frz [] .nilc, .prim (.int .i64 0), .prim (.string ⟨#[]⟩), .prim (.int .i64 0), .frz [] .nilc, .frz [] .nilc] ∧
    isStr Tryz.prog 69 = false ∧
    fieldOf Tryz.prog 69 0 = some (0, 1, false) ∧
    fieldOf Tryz.prog 69 1 = some (1, 9, true) ∧
    fieldsOf Tryz.prog 69 = some [(0, 1), (1, 9)] ∧
    szOf Tryz.prog 70 = some 10 ∧
    aggT Tryz.prog 70 = some true ∧
    zeroOf Tryz.prog 70 = some [.prim (.string ⟨#[]⟩), .prim (.int .i64 0), .prim (.string ⟨#[]⟩), .frz [] .nilc, .frz [] .nilc, .prim (.int .i64 0), .prim (.string ⟨#[]⟩), .prim (.int .i64 0), .frz [] .nilc, .frz [] .nilc] ∧
    isStr Tryz.prog 70 = false ∧
    fieldOf Tryz.prog 70 0 = some (0, 1, false) ∧
    fieldOf Tryz.prog 70 1 = some (1, 9, true) ∧
    fieldsOf Tryz.prog 70 = some [(0, 1), (1, 9)] ∧
    szOf Tryz.prog 71 = some 1 ∧
    aggT Tryz.prog 71 = some false ∧
    zeroOf Tryz.prog 71 = some [.prim .nilFunc] ∧
    isStr Tryz.prog 71 = false ∧
    szOf Tryz.prog 72 = some 1 ∧
    aggT Tryz.prog 72 = some false ∧
    zeroOf Tryz.prog 72 = some [.prim .nilFunc] ∧
    isStr Tryz.prog 72 = false ∧
    szOf Tryz.prog 73 = some 1 ∧
    aggT Tryz.prog 73 = some false ∧
    zeroOf Tryz.prog 73 = some [.prim .nilFunc] ∧
    isStr Tryz.prog 73 = false ∧
    szOf Tryz.prog 74 = some 1 ∧
    aggT Tryz.prog 74 = some false ∧
    zeroOf Tryz.prog 74 = some [.prim .nilFunc] ∧
    isStr Tryz.prog 74 = false ∧
    szOf Tryz.prog 75 = some 1 ∧
    aggT Tryz.prog 75 = some false ∧
    zeroOf Tryz.prog 75 = some [.frz [] .nilc] ∧
    elemOf Tryz.prog 75 = some 190 ∧
    apT Tryz.prog 75 = some 2 ∧
    isStr Tryz.prog 75 = false ∧
    szOf Tryz.prog 76 = some 1 ∧
    aggT Tryz.prog 76 = some false ∧
    zeroOf Tryz.prog 76 = some [.frz [] .nilc] ∧
    elemOf Tryz.prog 76 = some 80 ∧
    isStr Tryz.prog 76 = false ∧
    szOf Tryz.prog 77 = some 4 ∧
    aggT Tryz.prog 77 = some true ∧
    zeroOf Tryz.prog 77 = some [.prim (.string ⟨#[]⟩), .frz [] .nilc, .frz [] .nilc, .frz [] .nilc] ∧
    isStr Tryz.prog 77 = false ∧
    fieldOf Tryz.prog 77 0 = some (0, 1, false) ∧
    fieldOf Tryz.prog 77 1 = some (1, 1, false) ∧
    fieldOf Tryz.prog 77 2 = some (2, 1, false) ∧
    fieldOf Tryz.prog 77 3 = some (3, 1, false) ∧
    fieldsOf Tryz.prog 77 = some [(0, 1), (1, 1), (2, 1), (3, 1)] ∧
    szOf Tryz.prog 78 = some 4 ∧
    aggT Tryz.prog 78 = some true ∧
    zeroOf Tryz.prog 78 = some [.prim (.string ⟨#[]⟩), .frz [] .nilc, .frz [] .nilc, .frz [] .nilc] ∧
    isStr Tryz.prog 78 = false ∧
    fieldOf Tryz.prog 78 0 = some (0, 1, false) ∧
    fieldOf Tryz.prog 78 1 = some (1, 1, false) ∧
    fieldOf Tryz.prog 78 2 = some (2, 1, false) ∧
    fieldOf Tryz.prog 78 3 = some (3, 1, false) ∧
    fieldsOf Tryz.prog 78 = some [(0, 1), (1, 1), (2, 1), (3, 1)] ∧
    szOf Tryz.prog 79 = some 3 ∧
    aggT Tryz.prog 79 = some true ∧
    zeroOf Tryz.prog 79 = some [.prim (.string ⟨#[]⟩), .frz [] .nilc, .frz [] .nilc] ∧
    isStr Tryz.prog 79 = false ∧
    fieldOf Tryz.prog 79 0 = some (0, 1, false) ∧
    fieldOf Tryz.prog 79 1 = some (1, 1, false) ∧
    fieldOf Tryz.prog 79 2 = some (2, 1, false) ∧
    fieldsOf Tryz.prog 79 = some [(0, 1), (1, 1), (2, 1)] ∧
    szOf Tryz.prog 80 = some 3 ∧
    aggT Tryz.prog 80 = some true ∧
    zeroOf Tryz.prog 80 = some [.prim (.string ⟨#[]⟩), .frz [] .nilc, .frz [] .nilc] ∧
    isStr Tryz.prog 80 = false ∧
    fieldOf Tryz.prog 80 0 = some (0, 1, false) ∧
    fieldOf Tryz.prog 80 1 = some (1, 1, false) ∧
    fieldOf Tryz.prog 80 2 = some (2, 1, false) ∧
    fieldsOf Tryz.prog 80 = some [(0, 1), (1, 1), (2, 1)] ∧
    szOf Tryz.prog 81 = some 1 ∧
    aggT Tryz.prog 81 = some false ∧
    zeroOf Tryz.prog 81 = some [.prim .nilFunc] ∧
    isStr Tryz.prog 81 = false ∧
    szOf Tryz.prog 82 = some 1 ∧
    aggT Tryz.prog 82 = some false ∧
    zeroOf Tryz.prog 82 = some [.prim .nilFunc] ∧
    isStr Tryz.prog 82 = false ∧
    szOf Tryz.prog 83 = some 1 ∧
    aggT Tryz.prog 83 = some false ∧
    zeroOf Tryz.prog 83 = some [.frz [] .nilc] ∧
    elemOf Tryz.prog 83 = some 86 ∧
    apT Tryz.prog 83 = some 10 ∧
    isStr Tryz.prog 83 = false ∧
    szOf Tryz.prog 84 = some 3 ∧
    aggT Tryz.prog 84 = some true ∧
    zeroOf Tryz.prog 84 = some [.prim (.string ⟨#[]⟩), .prim (.string ⟨#[]⟩), .frz [] .nilc] ∧
    isStr Tryz.prog 84 = false ∧
    fieldOf Tryz.prog 84 0 = some (0, 1, false) ∧
    fieldOf Tryz.prog 84 1 = some (1, 1, false) ∧
    fieldOf Tryz.prog 84 2 = some (2, 1, false) ∧
    fieldsOf Tryz.prog 84 = some [(0, 1), (1, 1), (2, 1)] ∧
    szOf Tryz.prog 85 = some 3 ∧
    aggT Tryz.prog 85 = some true ∧
    zeroOf Tryz.prog 85 = some [.prim (.string ⟨#[]⟩), .prim (.string ⟨#[]⟩), .frz [] .nilc] ∧
    isStr Tryz.prog 85 = false ∧
    fieldOf Tryz.prog 85 0 = some (0, 1, false) ∧
    fieldOf Tryz.prog 85 1 = some (1, 1, false) ∧
    fieldOf Tryz.prog 85 2 = some (2, 1, false) ∧
    fieldsOf Tryz.prog 85 = some [(0, 1), (1, 1), (2, 1)] ∧
    szOf Tryz.prog 86 = some 10 ∧
    aggT Tryz.prog 86 = some true ∧
    zeroOf Tryz.prog 86 = some [.prim (.string ⟨#[]⟩), .prim (.int .i64 0), .prim (.string ⟨#[]⟩), .frz [] .nilc, .frz [] .nilc, .prim (.int .i64 0), .prim (.string ⟨#[]⟩), .prim (.int .i64 0), .frz [] .nilc, .frz [] .nilc] ∧
    isStr Tryz.prog 86 = false ∧
    fieldOf Tryz.prog 86 0 = some (0, 1, false) ∧
    fieldOf Tryz.prog 86 1 = some (1, 9, true) ∧
    fieldsOf Tryz.prog 86 = some [(0, 1), (1, 9)] ∧
    szOf Tryz.prog 87 = some 1 ∧
    aggT Tryz.prog 87 = some false ∧
    zeroOf Tryz.prog 87 = some [.prim .nilFunc] ∧
    isStr Tryz.prog 87 = false ∧
    szOf Tryz.prog 88 = some 1 ∧
    aggT Tryz.prog 88 = some false ∧
    zeroOf Tryz.prog 88 = some [.prim .nilFunc] ∧
    isStr Tryz.prog 88 = false ∧
    szOf Tryz.prog 89 = some 1 ∧
    aggT Tryz.prog 89 = some false ∧
    zeroOf Tryz.prog 89 = some [.prim .nilFunc] ∧
    isStr Tryz.prog 89 = false ∧
    szOf Tryz.prog 90 = some 1 ∧
    aggT Tryz.prog 90 = some false ∧
    zeroOf Tryz.prog 90 = some [.prim .nilFunc] ∧
    isStr Tryz.prog 90 = false ∧
    szOf Tryz.prog 91 = some 1 ∧
    aggT Tryz.prog 91 = some false ∧
    zeroOf Tryz.prog 91 = some [.prim .nilFunc] ∧
    isStr Tryz.prog 91 = false ∧
    szOf Tryz.prog 92 = some 1 ∧
    aggT Tryz.prog 92 = some false ∧
    zeroOf Tryz.prog 92 = some [.prim .nilFunc] ∧
    isStr Tryz.prog 92 = false ∧
    szOf Tryz.prog 93 = some 9 ∧
    aggT Tryz.prog 93 = some true ∧
    zeroOf Tryz.prog 93 = some [.prim (.string ⟨#[]⟩), .frz [] .nilc, .prim (.int .i64 0), .prim (.string ⟨#[]⟩), .prim (.int .i64 0), .frz [] .nilc, .frz [] .nilc, .frz [] .nilc, .frz [] .nilc] ∧
    isStr Tryz.prog 93 = false ∧
    fieldOf Tryz.prog 93 0 = some (0, 1, false) ∧
    fieldOf Tryz.prog 93 1 = some (1, 1, false) ∧
    fieldOf Tryz.prog 93 2 = some (2, 7, true) ∧
    fieldsOf Tryz.prog 93 = some [(0, 1), (1, 1), (2, 7)] ∧
    szOf Tryz.prog 94 = some 9 ∧
    aggT Tryz.prog 94 = some true ∧
    zeroOf Tryz.prog 94 = some [.prim (.string ⟨#[]⟩), .frz [] .nilc, .prim (.int .i64 0), .prim (.string ⟨#[]⟩), .prim (.int .i64 0), .frz [] .nilc, .frz [] .nilc, .frz [] .nilc, .frz [] .nilc] ∧
    isStr Tryz.prog 94 = false ∧
    fieldOf Tryz.prog 94 0 = some (0, 1, false) ∧
    fieldOf Tryz.prog 94 1 = some (1, 1, false) ∧
    fieldOf Tryz.prog 94 2 = some (2, 7, true) ∧
    fieldsOf Tryz.prog 94 = some [(0, 1), (1, 1), (2, 7)] ∧
    szOf Tryz.prog 95 = some 1 ∧
    aggT Tryz.prog 95 = some false ∧
    zeroOf Tryz.prog 95 = some [.bot] ∧
    setT Tryz.prog 95 = true ∧
    isStr Tryz.prog 95 = false ∧
    szOf Tryz.prog 96 = some 1 ∧
    aggT Tryz.prog 96 = some false ∧
    zeroOf Tryz.prog 96 = some [.prim .nilFunc] ∧
    isStr Tryz.prog 96 = false ∧
    szOf Tryz.prog 97 = some 2 ∧
    aggT Tryz.prog 97 = some true ∧
    zeroOf Tryz.prog 97 = some [.bot, .bot] ∧
    isStr Tryz.prog 97 = false ∧
    fieldOf Tryz.prog 97 0 = some (0, 1, false) ∧
    fieldOf Tryz.prog 97 1 = some (1, 1, false) ∧
    fieldsOf Tryz.prog 97 = some [(0, 1), (1, 1)] ∧
    szOf Tryz.prog 98 = some 2 ∧
    aggT Tryz.prog 98 = some true ∧
    zeroOf Tryz.prog 98 = some [.bot, .bot] ∧
    isStr Tryz.prog 98 = false ∧
    fieldOf Tryz.prog 98 0 = some (0, 1, false) ∧
    fieldOf Tryz.prog 98 1 = some (1, 1, false) ∧
    fieldsOf Tryz.prog 98 = some [(0, 1), (1, 1)] ∧
    szOf Tryz.prog 99 = some 3 ∧
    aggT Tryz.prog 99 = some true ∧
    zeroOf Tryz.prog 99 = some [.frz [] .nilc, .frz [] .nilc, .prim (.bool false)] ∧
    isStr Tryz.prog 99 = false ∧
    fieldOf Tryz.prog 99 0 = some (0, 1, false) ∧
    fieldOf Tryz.prog 99 1 = some (1, 1, false) ∧
    fieldOf Tryz.prog 99 2 = some (2, 1, false) ∧
    fieldsOf Tryz.prog 99 = some [(0, 1), (1, 1), (2, 1)] ∧
    szOf Tryz.prog 100 = some 3 ∧
    aggT Tryz.prog 100 = some true ∧
    zeroOf Tryz.prog 100 = some [.frz [] .nilc, .frz [] .nilc, .prim (.bool false)] ∧
    isStr Tryz.prog 100 = false ∧
    fieldOf Tryz.prog 100 0 = some (0, 1, false) ∧
    fieldOf Tryz.prog 100 1 = some (1, 1, false) ∧
    fieldOf Tryz.prog 100 2 = some (2, 1, false) ∧
    fieldsOf Tryz.prog 100 = some [(0, 1), (1, 1), (2, 1)] ∧
    szOf Tryz.prog 101 = some 1 ∧
    aggT Tryz.prog 101 = some false ∧
    zeroOf Tryz.prog 101 = some [.prim .nilFunc] ∧
    isStr Tryz.prog 101 = false ∧
    szOf Tryz.prog 102 = some 1 ∧
    aggT Tryz.prog 102 = some false ∧
    zeroOf Tryz.prog 102 = some [.prim .nilFunc] ∧
    isStr Tryz.prog 102 = false ∧
    szOf Tryz.prog 103 = some 1 ∧
    aggT Tryz.prog 103 = some false ∧
    zeroOf Tryz.prog 103 = some [.prim .nilFunc] ∧
    isStr Tryz.prog 103 = false ∧
    szOf Tryz.prog 104 = some 1 ∧
    aggT Tryz.prog 104 = some false ∧
    zeroOf Tryz.prog 104 = some [.prim .nilFunc] ∧
    isStr Tryz.prog 104 = false ∧
    szOf Tryz.prog 105 = some 1 ∧
    aggT Tryz.prog 105 = some false ∧
    zeroOf Tryz.prog 105 = some [.prim .nilFunc] ∧
    isStr Tryz.prog 105 = false ∧
    szOf Tryz.prog 106 = some 1 ∧
    aggT Tryz.prog 106 = some false ∧
    zeroOf Tryz.prog 106 = some [.prim .nilFunc] ∧
    isStr Tryz.prog 106 = false ∧
    szOf Tryz.prog 107 = some 1 ∧
    aggT Tryz.prog 107 = some false ∧
    zeroOf Tryz.prog 107 = some [.prim .nilFunc] ∧
    isStr Tryz.prog 107 = false ∧
    szOf Tryz.prog 108 = some 1 ∧
    aggT Tryz.prog 108 = some false ∧
    zeroOf Tryz.prog 108 = some [.prim .nilFunc] ∧
    isStr Tryz.prog 108 = false ∧
    szOf Tryz.prog 109 = some 1 ∧
    aggT Tryz.prog 109 = some false ∧
    zeroOf Tryz.prog 109 = some [.prim .nilFunc] ∧
    isStr Tryz.prog 109 = false ∧
    szOf Tryz.prog 110 = some 1 ∧
    aggT Tryz.prog 110 = some false ∧
    zeroOf Tryz.prog 110 = some [.prim .nilFunc] ∧
    isStr Tryz.prog 110 = false ∧
    szOf Tryz.prog 111 = some 1 ∧
    aggT Tryz.prog 111 = some false ∧
    zeroOf Tryz.prog 111 = some [.prim .nilFunc] ∧
    isStr Tryz.prog 111 = false ∧
    szOf Tryz.prog 112 = some 1 ∧
    aggT Tryz.prog 112 = some false ∧
    zeroOf Tryz.prog 112 = some [.prim .nilFunc] ∧
    isStr Tryz.prog 112 = false ∧
    szOf Tryz.prog 113 = some 1 ∧
    aggT Tryz.prog 113 = some false ∧
    zeroOf Tryz.prog 113 = some [.prim .nilFunc] ∧
    isStr Tryz.prog 113 = false ∧
    szOf Tryz.prog 114 = some 1 ∧
    aggT Tryz.prog 114 = some false ∧
    zeroOf Tryz.prog 114 = some [.prim .nilFunc] ∧
    isStr Tryz.prog 114 = false ∧
    szOf Tryz.prog 115 = some 1 ∧
    aggT Tryz.prog 115 = some false ∧
    zeroOf Tryz.prog 115 = some [.frz [] .nilc] ∧
    elemOf Tryz.prog 115 = some 114 ∧
    apT Tryz.prog 115 = some 1 ∧
    isStr Tryz.prog 115 = false ∧
    szOf Tryz.prog 116 = some 1 ∧
    aggT Tryz.prog 116 = some false ∧
    zeroOf Tryz.prog 116 = some [.prim .nilFunc] ∧
    isStr Tryz.prog 116 = false ∧
    szOf Tryz.prog 117 = some 1 ∧
    aggT Tryz.prog 117 = some false ∧
    zeroOf Tryz.prog 117 = some [.prim .nilFunc] ∧
    isStr Tryz.prog 117 = false ∧
    szOf Tryz.prog 118 = some 1 ∧
    aggT Tryz.prog 118 = some false ∧
    zeroOf Tryz.prog 118 = some [.prim .nilFunc] ∧
    isStr Tryz.prog 118 = false ∧
    szOf Tryz.prog 119 = some 9 ∧
    aggT Tryz.prog 119 = some true ∧
    zeroOf Tryz.prog 119 = some [.prim (.bool false), .prim (.bool false), .prim (.int .i64 0), .prim (.int .i64 0), .prim (.bool false), .prim (.bool false), .prim (.bool false), .prim (.bool false), .prim (.bool false)] ∧
    isStr Tryz.prog 119 = false ∧
    fieldOf Tryz.prog 119 0 = some (0, 1, false) ∧
    fieldOf Tryz.prog 119 1 = some (1, 1, false) ∧
    fieldOf Tryz.prog 119 2 = some (2, 1, false) ∧
    fieldOf Tryz.prog 119 3 = some (3, 1, false) ∧
    fieldOf Tryz.prog 119 4 = some (4, 1, false) ∧
    fieldOf Tryz.prog 119 5 = some (5, 1, false) ∧
    fieldOf Tryz.prog 119 6 = some (6, 1, false) ∧
    fieldOf Tryz.prog 119 7 = some (7, 1, false) ∧
    fieldOf Tryz.prog 119 8 = some (8, 1, false) ∧
    fieldsOf Tryz.prog 119 = some [(0, 1), (1, 1), (2, 1), (3, 1), (4, 1), (5, 1), (6, 1), (7, 1), (8, 1)] ∧
    flatK Tryz.prog 119 = some [0, 0, 1, 1, 0, 0, 0, 0, 0] ∧
    szOf Tryz.prog 120 = some 9 ∧
    aggT Tryz.prog 120 = some true ∧
    zeroOf Tryz.prog 120 = some [.prim (.bool false), .prim (.bool false), .prim (.int .i64 0), .prim (.int .i64 0), .prim (.bool false), .prim (.bool false), .prim (.bool false), .prim (.bool false), .prim (.bool false)] ∧
    isStr Tryz.prog 120 = false ∧
    fieldOf Tryz.prog 120 0 = some (0, 1, false) ∧
    fieldOf Tryz.prog 120 1 = some (1, 1, false) ∧
    fieldOf Tryz.prog 120 2 = some (2, 1, false) ∧
    fieldOf Tryz.prog 120 3 = some (3, 1, false) ∧
    fieldOf Tryz.prog 120 4 = some (4, 1, false) ∧
    fieldOf Tryz.prog 120 5 = some (5, 1, false) ∧
    fieldOf Tryz.prog 120 6 = some (6, 1, false) ∧
    fieldOf Tryz.prog 120 7 = some (7, 1, false) ∧
    fieldOf Tryz.prog 120 8 = some (8, 1, false) ∧
    fieldsOf Tryz.prog 120 = some [(0, 1), (1, 1), (2, 1), (3, 1), (4, 1), (5, 1), (6, 1), (7, 1), (8, 1)] ∧
    flatK Tryz.prog 120 = some [0, 0, 1, 1, 0, 0, 0, 0, 0] ∧
    szOf Tryz.prog 121 = some 1 ∧
    aggT Tryz.prog 121 = some false ∧
    zeroOf Tryz.prog 121 = some [.prim .nilFunc] ∧
    isStr Tryz.prog 121 = false ∧
    szOf Tryz.prog 122 = some 1 ∧
    aggT Tryz.prog 122 = some false ∧
    zeroOf Tryz.prog 122 = some [.prim .nilFunc] ∧
    isStr Tryz.prog 122 = false ∧
    szOf Tryz.prog 123 = some 1 ∧
    aggT Tryz.prog 123 = some false ∧
    zeroOf Tryz.prog 123 = some [.prim .nilFunc] ∧
    isStr Tryz.prog 123 = false ∧
    szOf Tryz.prog 124 = some 1 ∧
    aggT Tryz.prog 124 = some false ∧
    zeroOf Tryz.prog 124 = some [.prim .nilFunc] ∧
    isStr Tryz.prog 124 = false ∧
    szOf Tryz.prog 125 = some 1 ∧
    aggT Tryz.prog 125 = some false ∧
    zeroOf Tryz.prog 125 = some [.prim .nilFunc] ∧
    isStr Tryz.prog 125 = false ∧
    szOf Tryz.prog 126 = some 1 ∧
    aggT Tryz.prog 126 = some false ∧
    zeroOf Tryz.prog 126 = some [.prim (.int .u64 0)] ∧
    intOfT Tryz.prog 126 = some .u64 ∧
    isStr Tryz.prog 126 = false ∧
    szOf Tryz.prog 127 = some 1 ∧
    aggT Tryz.prog 127 = some false ∧
    zeroOf Tryz.prog 127 = some [.prim .nilFunc] ∧
    isStr Tryz.prog 127 = false ∧
    szOf Tryz.prog 128 = some 1 ∧
    aggT Tryz.prog 128 = some false ∧
    zeroOf Tryz.prog 128 = some [.prim .nilFunc] ∧
    isStr Tryz.prog 128 = false ∧
    szOf Tryz.prog 129 = some 1 ∧
    aggT Tryz.prog 129 = some false ∧
    zeroOf Tryz.prog 129 = some [.prim .nilFunc] ∧
    isStr Tryz.prog 129 = false ∧
    szOf Tryz.prog 130 = some 1 ∧
    aggT Tryz.prog 130 = some false ∧
    zeroOf Tryz.prog 130 = some [.prim .nilFunc] ∧
    isStr Tryz.prog 130 = false ∧
    szOf Tryz.prog 131 = some 1 ∧
    aggT Tryz.prog 131 = some false ∧
    zeroOf Tryz.prog 131 = some [.prim .nilFunc] ∧
    isStr Tryz.prog 131 = false ∧
    szOf Tryz.prog 132 = some 1 ∧
    aggT Tryz.prog 132 = some false ∧
    zeroOf Tryz.prog 132 = some [.prim .nilFunc] ∧
    isStr Tryz.prog 132 = false ∧
    szOf Tryz.prog 133 = some 1 ∧
    aggT Tryz.prog 133 = some false ∧
    zeroOf Tryz.prog 133 = some [.prim .nilFunc] ∧
    isStr Tryz.prog 133 = false ∧
    szOf Tryz.prog 134 = some 1 ∧
    aggT Tryz.prog 134 = some false ∧
    zeroOf Tryz.prog 134 = some [.prim .nilFunc] ∧
    isStr Tryz.prog 134 = false ∧
    szOf Tryz.prog 135 = some 1 ∧
    aggT Tryz.prog 135 = some false ∧
    zeroOf Tryz.prog 135 = some [.prim .nilFunc] ∧
    isStr Tryz.prog 135 = false ∧
    szOf Tryz.prog 136 = some 1 ∧
    aggT Tryz.prog 136 = some false ∧
    zeroOf Tryz.prog 136 = some [.prim (.int .i64 0)] ∧
    intOfT Tryz.prog 136 = some .i64 ∧
    isStr Tryz.prog 136 = false ∧
    szOf Tryz.prog 138 = some 1 ∧
    aggT Tryz.prog 138 = some false ∧
    zeroOf Tryz.prog 138 = some [.prim .nilFunc] ∧
    isStr Tryz.prog 138 = false ∧
    szOf Tryz.prog 139 = some 1 ∧
    aggT Tryz.prog 139 = some false ∧
    zeroOf Tryz.prog 139 = some [.prim .nilFunc] ∧
    isStr Tryz.prog 139 = false ∧
    szOf Tryz.prog 140 = some 1 ∧
    aggT Tryz.prog 140 = some false ∧
    zeroOf Tryz.prog 140 = some [.prim .nilFunc] ∧
    isStr Tryz.prog 140 = false ∧
    szOf Tryz.prog 141 = some 1 ∧
    aggT Tryz.prog 141 = some false ∧
    zeroOf Tryz.prog 141 = some [.prim .nilFunc] ∧
    isStr Tryz.prog 141 = false ∧
    szOf Tryz.prog 143 = some 1 ∧
    aggT Tryz.prog 143 = some false ∧
    zeroOf Tryz.prog 143 = some [.prim .nilFunc] ∧
    isStr Tryz.prog 143 = false ∧
    szOf Tryz.prog 144 = some 1 ∧
    aggT Tryz.prog 144 = some false ∧
    zeroOf Tryz.prog 144 = some [.prim .nilFunc] ∧
    isStr Tryz.prog 144 = false ∧
    szOf Tryz.prog 145 = some 1 ∧
    aggT Tryz.prog 145 = some false ∧
    zeroOf Tryz.prog 145 = some [.prim (.int .u32 0)] ∧
    intOfT Tryz.prog 145 = some .u32 ∧
    isStr Tryz.prog 145 = false ∧
    szOf Tryz.prog 146 = some 1 ∧
    aggT Tryz.prog 146 = some false ∧
    zeroOf Tryz.prog 146 = some [.prim .nilFunc] ∧
    isStr Tryz.prog 146 = false ∧
    szOf Tryz.prog 147 = some 1 ∧
    aggT Tryz.prog 147 = some false ∧
    zeroOf Tryz.prog 147 = some [.prim (.int .u64 0)] ∧
    intOfT Tryz.prog 147 = some .u64 ∧
    isStr Tryz.prog 147 = false ∧
    szOf Tryz.prog 148 = some 1 ∧
    aggT Tryz.prog 148 = some false ∧
    zeroOf Tryz.prog 148 = some [.prim .nilFunc] ∧
    isStr Tryz.prog 148 = false ∧
    szOf Tryz.prog 149 = some 1 ∧
    aggT Tryz.prog 149 = some false ∧
    zeroOf Tryz.prog 149 = some [.prim .nilFunc] ∧
    isStr Tryz.prog 149 = false ∧
    szOf Tryz.prog 150 = some 1 ∧
    aggT Tryz.prog 150 = some false ∧
    zeroOf Tryz.prog 150 = some [.prim .nilFunc] ∧
    isStr Tryz.prog 150 = false ∧
    szOf Tryz.prog 151 = some 1 ∧
    aggT Tryz.prog 151 = some false ∧
    zeroOf Tryz.prog 151 = some [.prim (.int .u64 0)] ∧
    intOfT Tryz.prog 151 = some .u64 ∧
    isStr Tryz.prog 151 = false ∧
    szOf Tryz.prog 152 = some 1 ∧
    aggT Tryz.prog 152 = some false ∧
    zeroOf Tryz.prog 152 = some [.prim .nilFunc] ∧
    isStr Tryz.prog 152 = false ∧
    szOf Tryz.prog 153 = some 1 ∧
    aggT Tryz.prog 153 = some false ∧
    zeroOf Tryz.prog 153 = some [.prim .nilFunc] ∧
    isStr Tryz.prog 153 = false ∧
    szOf Tryz.prog 154 = some 1 ∧
    aggT Tryz.prog 154 = some false ∧
    zeroOf Tryz.prog 154 = some [.prim .nilFunc] ∧
    isStr Tryz.prog 154 = false ∧
    szOf Tryz.prog 155 = some 1 ∧
    aggT Tryz.prog 155 = some false ∧
    zeroOf Tryz.prog 155 = some [.prim (.pointer none)] ∧
    isStr Tryz.prog 155 = false ∧
    szOf Tryz.prog 156 = some 1 ∧
    aggT Tryz.prog 156 = some false ∧
    zeroOf Tryz.prog 156 = some [.prim .nilFunc] ∧
    isStr Tryz.prog 156 = false ∧
    szOf Tryz.prog 157 = some 1 ∧
    aggT Tryz.prog 157 = some false ∧
    zeroOf Tryz.prog 157 = some [.prim .nilFunc] ∧
    isStr Tryz.prog 157 = false ∧
    szOf Tryz.prog 158 = some 1 ∧
    aggT Tryz.prog 158 = some false ∧
    zeroOf Tryz.prog 158 = some [.prim (.pointer none)] ∧
    isStr Tryz.prog 158 = false ∧
    szOf Tryz.prog 160 = some 1 ∧
    aggT Tryz.prog 160 = some false ∧
    zeroOf Tryz.prog 160 = some [.prim .nilFunc] ∧
    isStr Tryz.prog 160 = false ∧
    szOf Tryz.prog 161 = some 1 ∧
    aggT Tryz.prog 161 = some false ∧
    zeroOf Tryz.prog 161 = some [.prim .nilFunc] ∧
    isStr Tryz.prog 161 = false ∧
    szOf Tryz.prog 162 = some 1 ∧
    aggT Tryz.prog 162 = some false ∧
    zeroOf Tryz.prog 162 = some [.prim .nilFunc] ∧
    isStr Tryz.prog 162 = false ∧
    szOf Tryz.prog 163 = some 1 ∧
    aggT Tryz.prog 163 = some false ∧
    zeroOf Tryz.prog 163 = some [.prim .nilFunc] ∧
    isStr Tryz.prog 163 = false ∧
    szOf Tryz.prog 169 = some 1 ∧
    aggT Tryz.prog 169 = some false ∧
    zeroOf Tryz.prog 169 = some [.prim .nilFunc] ∧
    isStr Tryz.prog 169 = false ∧
    szOf Tryz.prog 172 = some 1 ∧
    aggT Tryz.prog 172 = some false ∧
    zeroOf Tryz.prog 172 = some [.prim .nilFunc] ∧
    isStr Tryz.prog 172 = false ∧
    szOf Tryz.prog 173 = some 1 ∧
    aggT Tryz.prog 173 = some false ∧
    zeroOf Tryz.prog 173 = some [.prim (.pointer none)] ∧
    isStr Tryz.prog 173 = false ∧
    szOf Tryz.prog 178 = some 1 ∧
    aggT Tryz.prog 178 = some false ∧
    zeroOf Tryz.prog 178 = some [.prim (.string ⟨#[]⟩)] ∧
    isStr Tryz.prog 178 = true ∧
    szOf Tryz.prog 179 = some 1 ∧
    aggT Tryz.prog 179 = some false ∧
    zeroOf Tryz.prog 179 = some [.frz [] .nilc] ∧
    elemOf Tryz.prog 179 = some 193 ∧
    apT Tryz.prog 179 = some 6 ∧
    isStr Tryz.prog 179 = false ∧
    szOf Tryz.prog 180 = some 8 ∧
    aggT Tryz.prog 180 = some true ∧
    zeroOf Tryz.prog 180 = some [.prim (.string ⟨#[]⟩), .prim (.string ⟨#[]⟩), .prim (.string ⟨#[]⟩), .frz [] .nilc, .prim (.int .i64 0), .prim (.string ⟨#[]⟩), .prim (.int .i64 0), .frz [] .nilc] ∧
    isStr Tryz.prog 180 = false ∧
    fieldOf Tryz.prog 180 0 = some (0, 1, false) ∧
    fieldOf Tryz.prog 180 1 = some (1, 1, false) ∧
    fieldOf Tryz.prog 180 2 = some (2, 1, false) ∧
    fieldOf Tryz.prog 180 3 = some (3, 1, false) ∧
    fieldOf Tryz.prog 180 4 = some (4, 4, true) ∧
    fieldsOf Tryz.prog 180 = some [(0, 1), (1, 1), (2, 1), (3, 1), (4, 4)] ∧
    szOf Tryz.prog 181 = some 8 ∧
    aggT Tryz.prog 181 = some true ∧
    zeroOf Tryz.prog 181 = some [.prim (.string ⟨#[]⟩), .prim (.string ⟨#[]⟩), .prim (.string ⟨#[]⟩), .frz [] .nilc, .prim (.int .i64 0), .prim (.string ⟨#[]⟩), .prim (.int .i64 0), .frz [] .nilc] ∧
    isStr Tryz.prog 181 = false ∧
    fieldOf Tryz.prog 181 0 = some (0, 1, false) ∧
    fieldOf Tryz.prog 181 1 = some (1, 1, false) ∧
    fieldOf Tryz.prog 181 2 = some (2, 1, false) ∧
    fieldOf Tryz.prog 181 3 = some (3, 1, false) ∧
    fieldOf Tryz.prog 181 4 = some (4, 4, true) ∧
    fieldsOf Tryz.prog 181 = some [(0, 1), (1, 1), (2, 1), (3, 1), (4, 4)] ∧
    szOf Tryz.prog 182 = some 6 ∧
    aggT Tryz.prog 182 = some true ∧
    zeroOf Tryz.prog 182 = some [.prim (.string ⟨#[]⟩), .frz [] .nilc, .prim (.int .i64 0), .prim (.string ⟨#[]⟩), .prim (.int .i64 0), .frz [] .nilc] ∧
    isStr Tryz.prog 182 = false ∧
    fieldOf Tryz.prog 182 0 = some (0, 1, false) ∧
    fieldOf Tryz.prog 182 1 = some (1, 1, false) ∧
    fieldOf Tryz.prog 182 2 = some (2, 4, true) ∧
    fieldsOf Tryz.prog 182 = some [(0, 1), (1, 1), (2, 4)] ∧
    szOf Tryz.prog 183 = some 6 ∧
    aggT Tryz.prog 183 = some true ∧
    zeroOf Tryz.prog 183 = some [.prim (.string ⟨#[]⟩), .frz [] .nilc, .prim (.int .i64 0), .prim (.string ⟨#[]⟩), .prim (.int .i64 0), .frz [] .nilc] ∧
    isStr Tryz.prog 183 = false ∧
    fieldOf Tryz.prog 183 0 = some (0, 1, false) ∧
    fieldOf Tryz.prog 183 1 = some (1, 1, false) ∧
    fieldOf Tryz.prog 183 2 = some (2, 4, true) ∧
    fieldsOf Tryz.prog 183 = some [(0, 1), (1, 1), (2, 4)] ∧
    szOf Tryz.prog 184 = some 2 ∧
    aggT Tryz.prog 184 = some true ∧
    zeroOf Tryz.prog 184 = some [.prim (.string ⟨#[]⟩), .prim (.string ⟨#[]⟩)] ∧
    isStr Tryz.prog 184 = false ∧
    fieldOf Tryz.prog 184 0 = some (0, 1, false) ∧
    fieldOf Tryz.prog 184 1 = some (1, 1, false) ∧
    fieldsOf Tryz.prog 184 = some [(0, 1), (1, 1)] ∧
    flatK Tryz.prog 184 = some [2, 2] ∧
    szOf Tryz.prog 185 = some 2 ∧
    aggT Tryz.prog 185 = some true ∧
    zeroOf Tryz.prog 185 = some [.prim (.string ⟨#[]⟩), .prim (.string ⟨#[]⟩)] ∧
    isStr Tryz.prog 185 = false ∧
    fieldOf Tryz.prog 185 0 = some (0, 1, false) ∧
    fieldOf Tryz.prog 185 1 = some (1, 1, false) ∧
    fieldsOf Tryz.prog 185 = some [(0, 1), (1, 1)] ∧
    flatK Tryz.prog 185 = some [2, 2] ∧
    szOf Tryz.prog 186 = some 2 ∧
    aggT Tryz.prog 186 = some true ∧
    zeroOf Tryz.prog 186 = some [.prim (.string ⟨#[]⟩), .prim (.string ⟨#[]⟩)] ∧
    isStr Tryz.prog 186 = false ∧
    fieldOf Tryz.prog 186 0 = some (0, 1, false) ∧
    fieldOf Tryz.prog 186 1 = some (1, 1, false) ∧
    fieldsOf Tryz.prog 186 = some [(0, 1), (1, 1)] ∧
    flatK Tryz.prog 186 = some [2, 2] ∧
    szOf Tryz.prog 187 = some 2 ∧
    aggT Tryz.prog 187 = some true ∧
    zeroOf Tryz.prog 187 = some [.prim (.string ⟨#[]⟩), .prim (.string ⟨#[]⟩)] ∧
    isStr Tryz.prog 187 = false ∧
    fieldOf Tryz.prog 187 0 = some (0, 1, false) ∧
    fieldOf Tryz.prog 187 1 = some (1, 1, false) ∧
    fieldsOf Tryz.prog 187 = some [(0, 1), (1, 1)] ∧
    flatK Tryz.prog 187 = some [2, 2] ∧
    szOf Tryz.prog 188 = some 10 ∧
    aggT Tryz.prog 188 = some true ∧
    zeroOf Tryz.prog 188 = some [.prim (.string ⟨#[]⟩), .frz [] .nilc, .prim (.int .i64 0), .prim (.string ⟨#[]⟩), .prim (.int .i64 0), .frz [] .nilc, .prim (.int .i64 0), .prim (.string ⟨#[]⟩), .prim (.int .i64 0), .frz [] .nilc] ∧
    isStr Tryz.prog 188 = false ∧
    fieldOf Tryz.prog 188 0 = some (0, 1, false) ∧
    fieldOf Tryz.prog 188 1 = some (1, 1, false) ∧
    fieldOf Tryz.prog 188 2 = some (2, 4, true) ∧
    fieldOf Tryz.prog 188 3 = some (6, 4, true) ∧
    fieldsOf Tryz.prog 188 = some [(0, 1), (1, 1), (2, 4), (6, 4)] ∧
    szOf Tryz.prog 189 = some 10 ∧
    aggT Tryz.prog 189 = some true ∧
    zeroOf Tryz.prog 189 = some [.prim (.string ⟨#[]⟩), .frz [] .nilc, .prim (.int .i64 0), .prim (.string ⟨#[]⟩), .prim (.int .i64 0), .frz [] .nilc, .prim (.int .i64 0), .prim (.string ⟨#[]⟩), .prim (.int .i64 0), .frz [] .nilc] ∧
    isStr Tryz.prog 189 = false ∧
    fieldOf Tryz.prog 189 0 = some (0, 1, false) ∧
    fieldOf Tryz.prog 189 1 = some (1, 1, false) ∧
    fieldOf Tryz.prog 189 2 = some (2, 4, true) ∧
    fieldOf Tryz.prog 189 3 = some (6, 4, true) ∧
    fieldsOf Tryz.prog 189 = some [(0, 1), (1, 1), (2, 4), (6, 4)] ∧
    szOf Tryz.prog 190 = some 2 ∧
    aggT Tryz.prog 190 = some true ∧
    zeroOf Tryz.prog 190 = some [.prim (.string ⟨#[]⟩), .prim (.string ⟨#[]⟩)] ∧
    isStr Tryz.prog 190 = false ∧
    fieldOf Tryz.prog 190 0 = some (0, 1, false) ∧
    fieldOf Tryz.prog 190 1 = some (1, 1, false) ∧
    fieldsOf Tryz.prog 190 = some [(0, 1), (1, 1)] ∧
    flatK Tryz.prog 190 = some [2, 2] ∧
    szOf Tryz.prog 192 = some 6 ∧
    aggT Tryz.prog 192 = some true ∧
    zeroOf Tryz.prog 192 = some [.prim (.string ⟨#[]⟩), .frz [] .nilc, .prim (.int .i64 0), .prim (.string ⟨#[]⟩), .prim (.int .i64 0), .frz [] .nilc] ∧
    isStr Tryz.prog 192 = false ∧
    fieldOf Tryz.prog 192 0 = some (0, 1, false) ∧
    fieldOf Tryz.prog 192 1 = some (1, 1, false) ∧
    fieldOf Tryz.prog 192 2 = some (2, 4, true) ∧
    fieldsOf Tryz.prog 192 = some [(0, 1), (1, 1), (2, 4)] ∧
    szOf Tryz.prog 193 = some 6 ∧
    aggT Tryz.prog 193 = some true ∧
    zeroOf Tryz.prog 193 = some [.prim (.string ⟨#[]⟩), .frz [] .nilc, .prim (.int .i64 0), .prim (.string ⟨#[]⟩), .prim (.int .i64 0), .frz [] .nilc] ∧
    isStr Tryz.prog 193 = false ∧
    fieldOf Tryz.prog 193 0 = some (0, 1, false) ∧
    fieldOf Tryz.prog 193 1 = some (1, 1, false) ∧
    fieldOf Tryz.prog 193 2 = some (2, 4, true) ∧
    fieldsOf Tryz.prog 193 = some [(0, 1), (1, 1), (2, 4)] :=
  ⟨by kernel_rfl, by kernel_rfl, by kernel_rfl, by kernel_rfl, by kernel_rfl, by kernel_rfl, by kernel_rfl, by kernel_rfl, by kernel_rfl, by kernel_rfl, by kernel_rfl, by kernel_rfl, by kernel_rfl, by kernel_rfl, by kernel_rfl, by kernel_rfl, by kernel_rfl, by kernel_rfl, by kernel_rfl, by kernel_rfl, by kernel_rfl, by kernel_rfl, by kernel_rfl, by kernel_rfl, by kernel_rfl, by kernel_rfl, by kernel_rfl, by kernel_rfl, by kernel_rfl, by kernel_rfl, by kernel_rfl, by kernel_rfl, by kernel_rfl, by kernel_rfl, by kernel_rfl, by kernel_rfl, by kernel_rfl, by kernel_rfl, by kernel_rfl, by kernel_rfl, by kernel_rfl, by kernel_rfl, by kernel_rfl, by kernel_rfl, by kernel_rfl, by kernel_rfl, by kernel_rfl, by kernel_rfl, by kernel_rfl, by kernel_rfl, by kernel_rfl, by kernel_rfl, by kernel_rfl, by kernel_rfl, by kernel_rfl, by kernel_rfl, by kernel_rfl, by kernel_rfl, by kernel_rfl, by kernel_rfl, by kernel_rfl, by kernel_rfl, by kernel_rfl, by kernel_rfl, by kernel_rfl, by kernel_rfl, by kernel_rfl, by kernel_rfl, by kernel_rfl, by kernel_rfl, by kernel_rfl, by kernel_rfl, by kernel_rfl, by kernel_rfl, by kernel_rfl, by kernel_rfl, by kernel_rfl, by kernel_rfl, by kernel_rfl, by kernel_rfl, by kernel_rfl, by kernel_rfl, by kernel_rfl, by kernel_rfl, by kernel_rfl, by kernel_rfl, by kernel_rfl, by kernel_rfl, by kernel_rfl, by kernel_rfl, by kernel_rfl, by kernel_rfl, by kernel_rfl, by kernel_rfl, by kernel_rfl, by kernel_rfl, by kernel_rfl, by kernel_rfl, by kernel_rfl, by kernel_rfl, by kernel_rfl, by kernel_rfl, by kernel_rfl, by kernel_rfl, by kernel_rfl, by kernel_rfl, by kernel_rfl, by kernel_rfl, by kernel_rfl, by kernel_rfl, by kernel_rfl, by kernel_rfl, by kernel_rfl, by kernel_rfl, by kernel_rfl, by kernel_rfl, by kernel_rfl, by kernel_rfl, by kernel_rfl, by kernel_rfl, by kernel_rfl, by kernel_rfl, by kernel_rfl, by kernel_rfl, by kernel_rfl, by kernel_rfl, by kernel_rfl, by kernel_rfl, by kernel_rfl, by kernel_rfl, by kernel_rfl, by kernel_rfl, by kernel_rfl, by kernel_rfl, by kernel_rfl, by kernel_rfl, by kernel_rfl, by kernel_rfl, by kernel_rfl, by kernel_rfl, by kernel_rfl, by kernel_rfl, by kernel_rfl, by kernel_rfl, by kernel_rfl, by kernel_rfl, by kernel_rfl, by kernel_rfl, by kernel_rfl, by kernel_rfl, by kernel_rfl, by kernel_rfl, by kernel_rfl, by kernel_rfl, by kernel_rfl, by kernel_rfl, by kernel_rfl, by kernel_rfl, by kernel_rfl, by kernel_rfl, by kernel_rfl, by kernel_rfl, by kernel_rfl, by kernel_rfl, by kernel_rfl, by kernel_rfl, by kernel_rfl, by kernel_rfl, by kernel_rfl, by kernel_rfl, by kernel_rfl, by kernel_rfl, by kernel_rfl, by kernel_rfl, by kernel_rfl, by kernel_rfl, by kernel_rfl, by kernel_rfl, by kernel_rfl, by kernel_rfl, by kernel_rfl, by kernel_rfl, by kernel_rfl, by kernel_rfl, by kernel_rfl, by kernel_rfl, by kernel_rfl, by kernel_rfl, by kernel_rfl, by kernel_rfl, by kernel_rfl, by kernel_rfl, by kernel_rfl, by kernel_rfl, by kernel_rfl, by kernel_rfl, by kernel_rfl, by kernel_rfl, by kernel_rfl, by kernel_rfl, by kernel_rfl, by kernel_rfl, by kernel_rfl, by kernel_rfl, by kernel_rfl, by kernel_rfl, by kernel_rfl, by kernel_rfl, by kernel_rfl, by kernel_rfl, by kernel_rfl, by kernel_rfl, by kernel_rfl, by kernel_rfl, by kernel_rfl, by kernel_rfl, by kernel_rfl, by kernel_rfl, by kernel_rfl, by kernel_rfl, by kernel_rfl, by kernel_rfl, by kernel_rfl, by kernel_rfl, by kernel_rfl, by kernel_rfl, by kernel_rfl, by kernel_rfl, by kernel_rfl, by kernel_rfl, by kernel_rfl, by kernel_rfl, by kernel_rfl, by kernel_rfl, by kernel_rfl, by kernel_rfl, by kernel_rfl, by kernel_rfl, by kernel_rfl, by kernel_rfl, by kernel_rfl, by kernel_rfl, by kernel_rfl, by kernel_rfl, by kernel_rfl, by kernel_rfl, by kernel_rfl, by kernel_rfl, by kernel_rfl, by kernel_rfl, by kernel_rfl, by kernel_rfl, by kernel_rfl, by kernel_rfl, by kernel_rfl, by kernel_rfl, by kernel_rfl, by kernel_rfl, by kernel_rfl, by kernel_rfl, by kernel_rfl, by kernel_rfl, by kernel_rfl, by kernel_rfl, by kernel_rfl, by kernel_rfl, by kernel_rfl, by kernel_rfl, by kernel_rfl, by kernel_rfl, by kernel_rfl, by kernel_rfl, by kernel_rfl, by kernel_rfl, by kernel_rfl, by kernel_rfl, by kernel_rfl, by kernel_rfl, by kernel_rfl, by kernel_rfl, by kernel_rfl, by kernel_rfl, by kernel_rfl, by kernel_rfl, by kernel_rfl, by kernel_rfl, by kernel_rfl, by kernel_rfl, by kernel_rfl, by kernel_rfl, by kernel_rfl, by kernel_rfl, by kernel_rfl, by kernel_rfl, by kernel_rfl, by kernel_rfl, by kernel_rfl, by kernel_rfl, by kernel_rfl, by kernel_rfl, by kernel_rfl, by kernel_rfl, by kernel_rfl, by kernel_rfl, by kernel_rfl, by kernel_rfl, by kernel_rfl, by kernel_rfl, by kernel_rfl, by kernel_rfl, by kernel_rfl, by kernel_rfl, by kernel_rfl, by kernel_rfl, by kernel_rfl, by kernel_rfl, by kernel_rfl, by kernel_rfl, by kernel_rfl, by kernel_rfl, by kernel_rfl, by kernel_rfl, by kernel_rfl, by kernel_rfl, by kernel_rfl, by kernel_rfl, by kernel_rfl, by kernel_rfl, by kernel_rfl, by kernel_rfl, by kernel_rfl, by kernel_rfl, by kernel_rfl, by kernel_rfl, by kernel_rfl, by kernel_rfl, by kernel_rfl, by kernel_rfl, by kernel_rfl, by kernel_rfl, by kernel_rfl, by kernel_rfl, by kernel_rfl, by kernel_rfl, by kernel_rfl, by kernel_rfl, by kernel_rfl, by kernel_rfl, by kernel_rfl, by kernel_rfl, by kernel_rfl, by kernel_rfl, by kernel_rfl, by kernel_rfl, by kernel_rfl, by kernel_rfl, by kernel_rfl, by kernel_rfl, by kernel_rfl, by kernel_rfl, by kernel_rfl, by kernel_rfl, by kernel_rfl, by kernel_rfl, by kernel_rfl, by kernel_rfl, by kernel_rfl, by kernel_rfl, by kernel_rfl, by kernel_rfl, by kernel_rfl, by kernel_rfl, by kernel_rfl, by kernel_rfl, by kernel_rfl, by kernel_rfl, by kernel_rfl, by kernel_rfl, by kernel_rfl, by kernel_rfl, by kernel_rfl, by kernel_rfl, by kernel_rfl, by kernel_rfl, by kernel_rfl, by kernel_rfl, by kernel_rfl, by kernel_rfl, by kernel_rfl, by kernel_rfl, by kernel_rfl, by kernel_rfl, by kernel_rfl, by kernel_rfl, by kernel_rfl, by kernel_rfl, by kernel_rfl, by kernel_rfl, by kernel_rfl, by kernel_rfl, by kernel_rfl, by kernel_rfl, by kernel_rfl, by kernel_rfl, by kernel_rfl, by kernel_rfl, by kernel_rfl, by kernel_rfl, by kernel_rfl, by kernel_rfl, by kernel_rfl, by kernel_rfl, by kernel_rfl, by kernel_rfl, by kernel_rfl, by kernel_rfl, by kernel_rfl, by kernel_rfl, by kernel_rfl, by kernel_rfl, by kernel_rfl, by kernel_rfl, by kernel_rfl, by kernel_rfl, by kernel_rfl, by kernel_rfl, by kernel_rfl, by kernel_rfl, by kernel_rfl, by kernel_rfl, by kernel_rfl, by kernel_rfl, by kernel_rfl, by kernel_rfl, by kernel_rfl, by kernel_rfl, by kernel_rfl, by kernel_rfl, by kernel_rfl, by kernel_rfl, by kernel_rfl, by kernel_rfl, by kernel_rfl, by kernel_rfl, by kernel_rfl, by kernel_rfl, by kernel_rfl, by kernel_rfl, by kernel_rfl, by kernel_rfl, by kernel_rfl, by kernel_rfl, by kernel_rfl, by kernel_rfl, by kernel_rfl, by kernel_rfl, by kernel_rfl, by kernel_rfl, by kernel_rfl, by kernel_rfl, by kernel_rfl, by kernel_rfl, by kernel_rfl, by kernel_rfl, by kernel_rfl, by kernel_rfl, by kernel_rfl, by kernel_rfl, by kernel_rfl, by kernel_rfl, by kernel_rfl, by kernel_rfl, by kernel_rfl, by kernel_rfl, by kernel_rfl, by kernel_rfl, by kernel_rfl, by kernel_rfl, by kernel_rfl, by kernel_rfl, by kernel_rfl, by kernel_rfl, by kernel_rfl, by kernel_rfl, by kernel_rfl, by kernel_rfl, by kernel_rfl, by kernel_rfl, by kernel_rfl, by kernel_rfl, by kernel_rfl, by kernel_rfl, by kernel_rfl, by kernel_rfl, by kernel_rfl, by kernel_rfl, by kernel_rfl, by kernel_rfl, by kernel_rfl, by kernel_rfl, by kernel_rfl, by kernel_rfl, by kernel_rfl, by kernel_rfl, by kernel_rfl, by kernel_rfl, by kernel_rfl, by kernel_rfl, by kernel_rfl, by kernel_rfl, by kernel_rfl, by kernel_rfl, by kernel_rfl, by kernel_rfl, by kernel_rfl, by kernel_rfl, by kernel_rfl, by kernel_rfl, by kernel_rfl, by kernel_rfl, by kernel_rfl, by kernel_rfl, by kernel_rfl, by kernel_rfl, by kernel_rfl, by kernel_rfl, by kernel_rfl, by kernel_rfl, by kernel_rfl, by kernel_rfl, by kernel_rfl, by kernel_rfl, by kernel_rfl, by kernel_rfl, by kernel_rfl, by kernel_rfl, by kernel_rfl, by kernel_rfl, by kernel_rfl, by kernel_rfl, by kernel_rfl, by kernel_rfl, by kernel_rfl, by kernel_rfl, by kernel_rfl, by kernel_rfl, by kernel_rfl, by kernel_rfl, by kernel_rfl, by kernel_rfl, by kernel_rfl, by kernel_rfl, by kernel_rfl, by kernel_rfl, by kernel_rfl, by kernel_rfl, by kernel_rfl, by kernel_rfl, by kernel_rfl, by kernel_rfl, by kernel_rfl, by kernel_rfl, by kernel_rfl, by kernel_rfl, by kernel_rfl, by kernel_rfl, by kernel_rfl, by kernel_rfl, by kernel_rfl, by kernel_rfl, by kernel_rfl, by kernel_rfl, by kernel_rfl, by kernel_rfl, by kernel_rfl, by kernel_rfl, by kernel_rfl, by kernel_rfl, by kernel_rfl, by kernel_rfl, by kernel_rfl, by kernel_rfl, by kernel_rfl, by kernel_rfl, by kernel_rfl, by kernel_rfl, by kernel_rfl, by kernel_rfl, by kernel_rfl, by kernel_rfl, by kernel_rfl, by kernel_rfl, by kernel_rfl, by kernel_rfl, by kernel_rfl, by kernel_rfl, by kernel_rfl, by kernel_rfl, by kernel_rfl, by kernel_rfl, by kernel_rfl, by kernel_rfl, by kernel_rfl, by kernel_rfl, by kernel_rfl, by kernel_rfl, by kernel_rfl, by kernel_rfl, by kernel_rfl, by kernel_rfl, by kernel_rfl, by kernel_rfl, by kernel_rfl, by kernel_rfl, by kernel_rfl, by kernel_rfl, by kernel_rfl, by kernel_rfl, by kernel_rfl, by kernel_rfl, by kernel_rfl, by kernel_rfl, by kernel_rfl, by kernel_rfl, by kernel_rfl, by kernel_rfl, by kernel_rfl, by kernel_rfl, by kernel_rfl, by kernel_rfl, by kernel_rfl, by kernel_rfl, by kernel_rfl, by kernel_rfl, by kernel_rfl, by kernel_rfl, by kernel_rfl, by kernel_rfl, by kernel_rfl, by kernel_rfl, by kernel_rfl, by kernel_rfl, by kernel_rfl, by kernel_rfl, by kernel_rfl, by kernel_rfl, by kernel_rfl, by kernel_rfl, by kernel_rfl, by kernel_rfl, by kernel_rfl, by kernel_rfl, by kernel_rfl, by kernel_rfl, by kernel_rfl, by kernel_rfl, by kernel_rfl, by kernel_rfl, by kernel_rfl, by kernel_rfl, by kernel_rfl, by kernel_rfl, by kernel_rfl, by kernel_rfl, by kernel_rfl, by kernel_rfl, by kernel_rfl, by kernel_rfl, by kernel_rfl, by kernel_rfl, by kernel_rfl, by kernel_rfl, by kernel_rfl, by kernel_rfl, by kernel_rfl, by kernel_rfl, by kernel_rfl, by kernel_rfl, by kernel_rfl, by kernel_rfl, by kernel_rfl, by kernel_rfl, by kernel_rfl, by kernel_rfl, by kernel_rfl, by kernel_rfl, by kernel_rfl, by kernel_rfl, by kernel_rfl, by kernel_rfl, by kernel_rfl, by kernel_rfl, by kernel_rfl, by kernel_rfl, by kernel_rfl, by kernel_rfl, by kernel_rfl, by kernel_rfl, by kernel_rfl, by kernel_rfl, by kernel_rfl, by kernel_rfl, by kernel_rfl, by kernel_rfl, by kernel_rfl, by kernel_rfl, by kernel_rfl, by kernel_rfl, by kernel_rfl, by kernel_rfl, by kernel_rfl, by kernel_rfl, by kernel_rfl, by kernel_rfl, by kernel_rfl, by kernel_rfl, by kernel_rfl, by kernel_rfl, by kernel_rfl, by kernel_rfl, by kernel_rfl, by kernel_rfl, by kernel_rfl, by kernel_rfl, by kernel_rfl, by kernel_rfl, by kernel_rfl, by kernel_rfl, by kernel_rfl, by kernel_rfl, by kernel_rfl, by kernel_rfl, by kernel_rfl, by kernel_rfl, by kernel_rfl, by kernel_rfl, by kernel_rfl, by kernel_rfl, by kernel_rfl, by kernel_rfl, by kernel_rfl, by kernel_rfl, by kernel_rfl, by kernel_rfl, by kernel_rfl, by kernel_rfl, by kernel_rfl, by kernel_rfl, by kernel_rfl, by kernel_rfl, by kernel_rfl, by kernel_rfl, by kernel_rfl, by kernel_rfl, by kernel_rfl, by kernel_rfl, by kernel_rfl, by kernel_rfl, by kernel_rfl, by kernel_rfl, by kernel_rfl, by kernel_rfl, by kernel_rfl, by kernel_rfl, by kernel_rfl, by kernel_rfl, by kernel_rfl, by kernel_rfl, by kernel_rfl, by kernel_rfl, by kernel_rfl, by kernel_rfl, by kernel_rfl, by kernel_rfl, by kernel_rfl, by kernel_rfl, by kernel_rfl, by kernel_rfl, by kernel_rfl, by kernel_rfl, by kernel_rfl, by kernel_rfl, by kernel_rfl, by kernel_rfl, by kernel_rfl, by kernel_rfl, by kernel_rfl, by kernel_rfl, by kernel_rfl, by kernel_rfl, by kernel_rfl, by kernel_rfl, by kernel_rfl, by kernel_rfl, by kernel_rfl, by kernel_rfl, by kernel_rfl, by kernel_rfl, by kernel_rfl, by kernel_rfl, by kernel_rfl, by kernel_rfl, by kernel_rfl, by kernel_rfl, by kernel_rfl, by kernel_rfl, by kernel_rfl, by kernel_rfl, by kernel_rfl, by kernel_rfl, by kernel_rfl, by kernel_rfl, by kernel_rfl, by kernel_rfl, by kernel_rfl, by kernel_rfl, by kernel_rfl, by kernel_rfl, by kernel_rfl, by kernel_rfl, by kernel_rfl, by kernel_rfl, by kernel_rfl, by kernel_rfl, by kernel_rfl, by kernel_rfl, by kernel_rfl, by kernel_rfl, by kernel_rfl, by kernel_rfl, by kernel_rfl, by kernel_rfl, by kernel_rfl, by kernel_rfl, by kernel_rfl, by kernel_rfl, by kernel_rfl, by kernel_rfl, by kernel_rfl, by kernel_rfl, by kernel_rfl, by kernel_rfl, by kernel_rfl, by kernel_rfl, by kernel_rfl, by kernel_rfl, by kernel_rfl, by kernel_rfl, by kernel_rfl, by kernel_rfl, by kernel_rfl, by kernel_rfl, by kernel_rfl, by kernel_rfl, by kernel_rfl, by kernel_rfl, by kernel_rfl, by kernel_rfl, by kernel_rfl, by kernel_rfl, by kernel_rfl, by kernel_rfl, by kernel_rfl, by kernel_rfl, by kernel_rfl, by kernel_rfl, by kernel_rfl, by kernel_rfl, by kernel_rfl, by kernel_rfl, by kernel_rfl, by kernel_rfl, by kernel_rfl, by kernel_rfl, by kernel_rfl, by kernel_rfl, by kernel_rfl, by kernel_rfl, by kernel_rfl, by kernel_rfl, by kernel_rfl, by kernel_rfl, by kernel_rfl, by kernel_rfl, by kernel_rfl, by kernel_rfl, by kernel_rfl, by kernel_rfl, by kernel_rfl, by kernel_rfl, by kernel_rfl, by kernel_rfl, by kernel_rfl, by kernel_rfl, by kernel_rfl, by kernel_rfl, by kernel_rfl, by kernel_rfl, by kernel_rfl, by kernel_rfl, by kernel_rfl, by kernel_rfl, by kernel_rfl, by kernel_rfl, by kernel_rfl, by kernel_rfl, by kernel_rfl, by kernel_rfl, by kernel_rfl, by kernel_rfl, by kernel_rfl, by kernel_rfl, by kernel_rfl, by kernel_rfl, by kernel_rfl, by kernel_rfl, by kernel_rfl, by kernel_rfl, by kernel_rfl, by kernel_rfl, by kernel_rfl, by kernel_rfl, by kernel_rfl, by kernel_rfl, by kernel_rfl, by kernel_rfl, by kernel_rfl, by kernel_rfl, by kernel_rfl, by kernel_rfl, by kernel_rfl, by kernel_rfl, by kernel_rfl, by kernel_rfl, by kernel_rfl, by kernel_rfl, by kernel_rfl, by kernel_rfl, by kernel_rfl, by kernel_rfl, by kernel_rfl, by kernel_rfl, by kernel_rfl, by kernel_rfl⟩
end Go.Proofs.YtmkoiandfojgmaaGreat
namespace Go.Proofs.YtmkoiandfojgmaaGreat
open Go
inductive PT where
  | node (op : Int) (name : ByteArray) (n : Int) (kids : List PT)
inductive TT where
  | node (op : Int) (name : ByteArray) (args : List TT) (names : List ByteArray) (pred : PT) (preds : List PT)
mutual
inductive XT where
  | node (op : Int) (name : ByteArray) (n : Int) (kids : List XT) (params : List (ByteArray × TT)) (alts : List LT) (types : List TT)
inductive LT where
  | mk (con : ByteArray) (names : List ByteArray) (body : XT)
end
def strC (s : ByteArray) : List AV := [.prim (.string s)]
def strsA (l : List ByteArray) : AV := .frz (l.map strC) .unk
mutual
def predC : PT → List AV
  | .node o s n ks => [.prim (.int .i64 o), .prim (.string s), .prim (.int .i64 n), .frz (predsC ks) .unk]
def predsC : List PT → List (List AV)
  | [] => []
  | k :: ks => predC k :: predsC ks
end
mutual
def typeC : TT → List AV
  | .node o s al ns p ps => .prim (.int .i64 o) :: .prim (.string s) :: .frz (typesC al) .unk :: strsA ns :: (predC p ++ [.frz (predsC ps) .unk])
def typesC : List TT → List (List AV)
  | [] => []
  | k :: ks => typeC k :: typesC ks
end
def paramC (p : ByteArray × TT) : List AV := .prim (.string p.1) :: typeC p.2
mutual
def exprC : XT → List AV
  | .node o s n ks ps al ts => [.prim (.int .i64 o), .prim (.string s), .prim (.int .i64 n), .frz (exprsC ks) .unk, .frz (ps.map paramC) .unk, .frz (altsC al) .unk, .frz (typesC ts) .unk]
def exprsC : List XT → List (List AV)
  | [] => []
  | k :: ks => exprC k :: exprsC ks
def altC : LT → List AV
  | .mk c ns b => .prim (.string c) :: strsA ns :: exprC b
def altsC : List LT → List (List AV)
  | [] => []
  | a :: al => altC a :: altsC al
end
theorem predsC_map : ∀ l : List PT, predsC l = l.map predC
  | [] => rfl
  | _ :: l => by simp only [predsC, List.map_cons, predsC_map l]
theorem typesC_map : ∀ l : List TT, typesC l = l.map typeC
  | [] => rfl
  | _ :: l => by simp only [typesC, List.map_cons, typesC_map l]
theorem exprsC_map : ∀ l : List XT, exprsC l = l.map exprC
  | [] => rfl
  | _ :: l => by simp only [exprsC, List.map_cons, exprsC_map l]
theorem altsC_map : ∀ l : List LT, altsC l = l.map altC
  | [] => rfl
  | _ :: l => by simp only [altsC, List.map_cons, altsC_map l]
theorem predsC_len (l : List PT) : (predsC l).length = l.length := by rw [predsC_map, List.length_map]
theorem typesC_len (l : List TT) : (typesC l).length = l.length := by rw [typesC_map, List.length_map]
theorem exprsC_len (l : List XT) : (exprsC l).length = l.length := by rw [exprsC_map, List.length_map]
theorem altsC_len (l : List LT) : (altsC l).length = l.length := by rw [altsC_map, List.length_map]
theorem predC_four : ∀ p, (predC p).length = 4 | .node _ _ _ _ => rfl
theorem typeC_nine : ∀ p, (typeC p).length = 9 | .node _ _ _ _ p _ => by simp [typeC, predC_four]
theorem exprC_seven : ∀ p, (exprC p).length = 7 | .node _ _ _ _ _ _ _ => rfl
theorem paramC_ten (p : ByteArray × TT) : (paramC p).length = 10 := by simp [paramC, typeC_nine]
theorem altC_nine : ∀ p, (altC p).length = 9 | .mk _ _ _ => by simp [altC, exprC_seven]
theorem nth_map {α β : Type} {f : α → β} {l : List α} {i : Nat} : nth (l.map f) i = (nth l i).map f := by rw [nth_get, nth_get, List.getElem?_map]
theorem nth_exprs {ks : List XT} {i : Nat} {k : XT} (h : nth ks i = some k) : nth (exprsC ks) i = some (exprC k) := by rw [exprsC_map, nth_map, h]; rfl
theorem nth_alts {ks : List LT} {i : Nat} {k : LT} (h : nth ks i = some k) : nth (altsC ks) i = some (altC k) := by rw [altsC_map, nth_map, h]; rfl
theorem nth_types {ks : List TT} {i : Nat} {k : TT} (h : nth ks i = some k) : nth (typesC ks) i = some (typeC k) := by rw [typesC_map, nth_map, h]; rfl
theorem nth_params {ks : List (ByteArray × TT)} {i : Nat} {k : ByteArray × TT} (h : nth ks i = some k) : nth (ks.map paramC) i = some (paramC k) := by rw [nth_map, h]; rfl
theorem nth_strs {l : List ByteArray} {i : Nat} {s : ByteArray} (h : nth l i = some s) : nth (l.map strC) i = some (strC s) := by rw [nth_map, h]; rfl
theorem nth_memU {α : Type} : ∀ {l : List α} {i : Nat} {x : α}, nth l i = some x → x ∈ l
  | x :: _, 0, _, h => by simp only [nth, Option.some.injEq] at h; simp [h]
  | _ :: l, i + 1, _, h => by simp only [nth] at h; simp [nth_memU h]
  | [], _, _, h => by simp [nth] at h
mutual
theorem predC_inj : ∀ {a b : PT}, predC a = predC b → a = b
  | .node o s n ks, .node o' s' n' ks', h => by
    simp only [predC, List.cons.injEq, AV.prim.injEq, Value.int.injEq, Value.string.injEq, AV.frz.injEq, and_true, true_and] at h
    obtain ⟨rfl, rfl, rfl, h⟩ := h
    rw [predsC_inj h]
theorem predsC_inj : ∀ {a b : List PT}, predsC a = predsC b → a = b
  | [], [], _ => rfl
  | x :: a, y :: b, h => by
    simp only [predsC, List.cons.injEq] at h
    rw [predC_inj h.1, predsC_inj h.2]
  | [], _ :: _, h => by simp [predsC] at h
  | _ :: _, [], h => by simp [predsC] at h
end
theorem strs_inj : ∀ {a b : List ByteArray}, a.map strC = b.map strC → a = b
  | [], [], _ => rfl
  | x :: a, y :: b, h => by
    simp only [List.map_cons, strC, List.cons.injEq, AV.prim.injEq, Value.string.injEq, and_true] at h
    rw [h.1, strs_inj h.2]
  | [], _ :: _, h => by simp at h
  | _ :: _, [], h => by simp at h
mutual
theorem typeC_inj : ∀ {a b : TT}, typeC a = typeC b → a = b
  | .node o s al ns p ps, .node o' s' as' ns' p' ps', h => by
    simp only [typeC, strsA, List.cons.injEq, AV.prim.injEq, Value.int.injEq, Value.string.injEq, AV.frz.injEq, and_true, true_and] at h
    obtain ⟨rfl, rfl, h1, h2, h3⟩ := h
    obtain ⟨h3, h4⟩ := List.append_inj h3 (by rw [predC_four, predC_four])
    simp only [List.cons.injEq, AV.frz.injEq, and_true] at h4
    rw [typesC_inj h1, strs_inj h2, predC_inj h3, predsC_inj h4]
theorem typesC_inj : ∀ {a b : List TT}, typesC a = typesC b → a = b
  | [], [], _ => rfl
  | x :: a, y :: b, h => by
    simp only [typesC, List.cons.injEq] at h
    rw [typeC_inj h.1, typesC_inj h.2]
  | [], _ :: _, h => by simp [typesC] at h
  | _ :: _, [], h => by simp [typesC] at h
end
theorem params_inj : ∀ {a b : List (ByteArray × TT)}, a.map paramC = b.map paramC → a = b
  | [], [], _ => rfl
  | x :: a, y :: b, h => by
    simp only [List.map_cons, paramC, List.cons.injEq, AV.prim.injEq, Value.string.injEq] at h
    rw [Prod.ext h.1.1 (typeC_inj h.1.2), params_inj h.2]
  | [], _ :: _, h => by simp at h
  | _ :: _, [], h => by simp at h
mutual
theorem exprC_inj : ∀ {a b : XT}, exprC a = exprC b → a = b
  | .node o s n ks ps al ts, .node o' s' n' ks' ps' as' ts', h => by
    simp only [exprC, List.cons.injEq, AV.prim.injEq, Value.int.injEq, Value.string.injEq, AV.frz.injEq, and_true, true_and] at h
    obtain ⟨rfl, rfl, rfl, h1, h2, h3, h4⟩ := h
    rw [exprsC_inj h1, params_inj h2, altsC_inj h3, typesC_inj h4]
theorem exprsC_inj : ∀ {a b : List XT}, exprsC a = exprsC b → a = b
  | [], [], _ => rfl
  | x :: a, y :: b, h => by
    simp only [exprsC, List.cons.injEq] at h
    rw [exprC_inj h.1, exprsC_inj h.2]
  | [], _ :: _, h => by simp [exprsC] at h
  | _ :: _, [], h => by simp [exprsC] at h
theorem altC_inj : ∀ {a b : LT}, altC a = altC b → a = b
  | .mk c ns e, .mk c' ns' e', h => by
    simp only [altC, strsA, List.cons.injEq, AV.prim.injEq, Value.string.injEq, AV.frz.injEq, and_true] at h
    obtain ⟨rfl, h1, h2⟩ := h
    rw [strs_inj h1, exprC_inj h2]
theorem altsC_inj : ∀ {a b : List LT}, altsC a = altsC b → a = b
  | [], [], _ => rfl
  | x :: a, y :: b, h => by
    simp only [altsC, List.cons.injEq] at h
    rw [altC_inj h.1, altsC_inj h.2]
  | [], _ :: _, h => by simp [altsC] at h
  | _ :: _, [], h => by simp [altsC] at h
end
mutual
def szP : PT → Nat
  | .node _ _ _ ks => 1 + szPs ks
def szPs : List PT → Nat
  | [] => 0
  | k :: ks => szP k + szPs ks
end
mutual
def szT : TT → Nat
  | .node _ _ al ns p ps => 1 + szTs al + ns.length + szP p + szPs ps
def szTs : List TT → Nat
  | [] => 0
  | k :: ks => szT k + szTs ks
end
def szQs : List (ByteArray × TT) → Nat
  | [] => 0
  | p :: ps => 1 + szT p.2 + szQs ps
mutual
def szX : XT → Nat
  | .node _ _ _ ks ps al _ => 1 + szXs ks + ps.length + szLs al
def szXs : List XT → Nat
  | [] => 0
  | k :: ks => szX k + szXs ks
def szL : LT → Nat
  | .mk _ ns b => 1 + ns.length + szX b
def szLs : List LT → Nat
  | [] => 0
  | a :: al => szL a + szLs al
end
theorem szX_pos : ∀ e, 1 ≤ szX e | .node _ _ _ _ _ _ _ => by simp only [szX]; omega
theorem szT_pos : ∀ e, 1 ≤ szT e | .node _ _ _ _ _ _ => by simp only [szT]; omega
theorem szP_pos : ∀ e, 1 ≤ szP e | .node _ _ _ _ => by simp only [szP]; omega
theorem szL_pos : ∀ e, 1 ≤ szL e | .mk _ _ _ => by simp only [szL]; omega
theorem szXs_len : ∀ l, l.length ≤ szXs l
  | [] => Nat.le_refl _
  | k :: l => by have := szXs_len l; have := szX_pos k; simp only [szXs, List.length_cons]; omega
theorem szTs_len : ∀ l, l.length ≤ szTs l
  | [] => Nat.le_refl _
  | k :: l => by have := szTs_len l; have := szT_pos k; simp only [szTs, List.length_cons]; omega
theorem szPs_len : ∀ l, l.length ≤ szPs l
  | [] => Nat.le_refl _
  | k :: l => by have := szPs_len l; have := szP_pos k; simp only [szPs, List.length_cons]; omega
theorem szLs_len : ∀ l, l.length ≤ szLs l
  | [] => Nat.le_refl _
  | k :: l => by have := szLs_len l; have := szL_pos k; simp only [szLs, List.length_cons]; omega
theorem szQs_len : ∀ l, l.length ≤ szQs l
  | [] => Nat.le_refl _
  | k :: l => by have := szQs_len l; simp only [szQs, List.length_cons]; omega
theorem szXs_mem : ∀ {l : List XT} {k : XT}, k ∈ l → szX k ≤ szXs l
  | x :: l, k, h => by
    simp only [szXs]
    rcases List.mem_cons.1 h with rfl | h
    · omega
    · have := szXs_mem h; omega
theorem szTs_mem : ∀ {l : List TT} {k : TT}, k ∈ l → szT k ≤ szTs l
  | x :: l, k, h => by
    simp only [szTs]
    rcases List.mem_cons.1 h with rfl | h
    · omega
    · have := szTs_mem h; omega
theorem szLs_mem : ∀ {l : List LT} {k : LT}, k ∈ l → szL k ≤ szLs l
  | x :: l, k, h => by
    simp only [szLs]
    rcases List.mem_cons.1 h with rfl | h
    · omega
    · have := szLs_mem h; omega
theorem szQs_mem : ∀ {l : List (ByteArray × TT)} {k : ByteArray × TT}, k ∈ l → szT k.2 ≤ szQs l
  | x :: l, k, h => by
    simp only [szQs]
    rcases List.mem_cons.1 h with rfl | h
    · omega
    · have := szQs_mem h; omega
end Go.Proofs.YtmkoiandfojgmaaGreat
namespace Go.Proofs.YtmkoiandfojgmaaGreat
open Go
abbrev Sn := ByteArray → Bool
def memB (l : List ByteArray) (s : ByteArray) : Bool := l.any fun x => sEq x s
def bindC (C : Sn) (s : ByteArray) (c : Bool) : Sn := if c = true then addK C s else delK C s
def delL (G : Sn) : List ByteArray → Sn
  | [] => G
  | s :: l => delL (delK G s) l
def uniK (G H : Sn) : Sn := fun x => G x || H x
def outK (G : Sn) (bs : List ByteArray) : Sn := fun x => G x && !memB bs x
def TT.op : TT → Int | .node o _ _ _ _ _ => o
def TT.args : TT → List TT | .node _ _ a _ _ _ => a
def XT.op : XT → Int | .node o _ _ _ _ _ _ => o
def XT.name : XT → ByteArray | .node _ s _ _ _ _ _ => s
def isCell (t : TT) : Bool := t.op == 3
def underF (o : Int) (s : ByteArray) (ps : List (ByteArray × TT)) (i : Nat) (bs : List ByteArray) : List ByteArray :=
  (bs ++ (if o = 7 ∧ 0 < i then [s] else [])) ++ (if o = 6 then ps.map (·.1) else [])
mutual
def occ (C : Sn) : XT → List ByteArray → Bool
  | .node o s _ ks ps al _, bs => (decide (o = 3) && C s && !memB bs s) || occK C o s ps 0 ks bs || occA C al bs
def occK (C : Sn) (o : Int) (s : ByteArray) (ps : List (ByteArray × TT)) : Nat → List XT → List ByteArray → Bool
  | _, [], _ => false
  | i, k :: ks, bs => occ C k (underF o s ps i bs) || occK C o s ps (i + 1) ks bs
def occA (C : Sn) : List LT → List ByteArray → Bool
  | [], _ => false
  | .mk _ ns b :: al, bs => occ C b (bs ++ ns) || occA C al bs
end
def getV (o : Int) (ks : List XT) (C : Sn) : Option ByteArray :=
  match ks with
  | [k] => if o = 23 ∧ k.op = 3 ∧ C k.name = true then some k.name else none
  | _ => none
def typedF (ts : List TT) : Bool :=
  match ts with
  | [] => false
  | t :: _ => isCell t
def ownL : Sn → List (ByteArray × TT) → Sn
  | C, [] => C
  | C, p :: ps => ownL (bindC C p.1 (isCell p.2)) ps
mutual
def thr : XT → Sn → Sn → Option Sn
  | .node o s _ ks ps al ts, C, G =>
    if o = 3 then (if C s = true then (if G s = true then none else some (addK G s)) else some G)
    else match getV o ks C with
    | some m => if G m = true then none else some G
    | none =>
      if o = 6 then (if lamK ks C (ownL noK ps) (ps.map (·.1)) = true then some G else none)
      else if o = 7 ∧ ks.length = 2 then (thrAt ks 0 C G).bind fun G1 => (thrAt ks 1 (bindC C s (typedF ts)) (delL G1 [s])).map fun G2 => uniK G1 (outK G2 [s])
      else if o = 8 ∧ ks.length = 3 then (thrAt ks 0 C G).bind fun G1 => (thrAt ks 1 C G1).bind fun Ga => (thrAt ks 2 C G1).map fun Gb => uniK (uniK G1 Ga) Gb
      else if o = 9 then (thrL ks C G).bind fun G1 => thrA al C G1 G1
      else thrL ks C G
def lamK : List XT → Sn → Sn → List ByteArray → Bool
  | [], _, _, _ => true
  | k :: ks, C, own, bs => !occ C k bs && (thr k own noK).isSome && lamK ks C own bs
def thrAt : List XT → Nat → Sn → Sn → Option Sn
  | [], _, _, _ => none
  | k :: _, 0, C, G => thr k C G
  | _ :: ks, i + 1, C, G => thrAt ks i C G
def thrL : List XT → Sn → Sn → Option Sn
  | [], _, G => some G
  | k :: ks, C, G => (thr k C G).bind fun G1 => thrL ks C G1
def thrA : List LT → Sn → Sn → Sn → Option Sn
  | [], _, _, acc => some acc
  | .mk _ ns b :: al, C, G0, acc => (thr b (delL C ns) (delL G0 ns)).bind fun r => thrA al C G0 (uniK acc (uniK G0 (outK r ns)))
end
theorem thrAt_nth : ∀ {ks : List XT} {i : Nat} {k : XT}, nth ks i = some k → ∀ C G, thrAt ks i C G = thr k C G
  | k :: _, 0, _, h, C, G => by simp only [nth, Option.some.injEq] at h; subst h; simp only [thrAt]
  | _ :: ks, i + 1, _, h, C, G => by simp only [nth] at h; simp only [thrAt]; exact thrAt_nth h C G
  | [], _, _, h, _, _ => by simp [nth] at h
def insF (e : XT) (C : Sn) (bs : List ByteArray) (G : Sn) : Option Sn := (thr e C (delL G bs)).map fun r => uniK G (outK r bs)
mutual
def dpX : XT → Nat
  | .node _ _ _ ks _ al _ => 1 + max (dpXs ks) (dpLs al)
def dpXs : List XT → Nat
  | [] => 0
  | k :: ks => max (dpX k) (dpXs ks)
def dpLs : List LT → Nat
  | [] => 0
  | .mk _ _ b :: al => max (dpX b) (dpLs al)
end
theorem dpXs_mem : ∀ {l : List XT} {k : XT}, k ∈ l → dpX k ≤ dpXs l
  | x :: l, k, h => by
    simp only [dpXs]
    rcases List.mem_cons.1 h with rfl | h
    · omega
    · have := dpXs_mem h; omega
theorem dpLs_mem : ∀ {l : List LT} {c : ByteArray} {ns : List ByteArray} {b : XT}, LT.mk c ns b ∈ l → dpX b ≤ dpLs l
  | .mk c0 ns0 b0 :: l, c, ns, b, h => by
    simp only [dpLs]
    rcases List.mem_cons.1 h with h | h
    · injection h with h1 h2 h3; subst h3; omega
    · have := dpLs_mem h; omega
end Go.Proofs.YtmkoiandfojgmaaGreat
namespace Go.Proofs.YtmkoiandfojgmaaGreat
open Go
def ownF : Option Tmp → TypeId → String → Bool
  | some 32, 115, _ => true
  | some 34, 44, p => p == "unique.go:104"
  | some 49, 44, _ => true
  | some 134, 115, _ => true
  | _, _, _ => false
def lkF0 (f : FuncId) : Bool := f == 86
def anF0 (f : FuncId) : Bool := f == 45 || f == 63 || f == 64 || f == 67 || f == 43 || f == 61 || f == 87
def mvF0 (f : FuncId) : Bool := f == 43
def withF (f : FuncId) : Bool := f == 68
def tkF0 (f : FuncId) : Bool := f == 55 || f == 26 || withF f
instance : Globs := ⟨[], fun _ => false, false, ownF, lkF0, anF0, true, false, tkF0, mvF0⟩
def strsOf : List (List AV) → Option (List ByteArray)
  | [] => some []
  | [.prim (.string x)] :: r => (strsOf r).map (x :: ·)
  | _ => none
theorem strsOf_map : ∀ l : List ByteArray, strsOf (l.map strC) = some l
  | [] => rfl
  | x :: l => by simp only [List.map_cons, strC, strsOf, strsOf_map l, Option.map_some]
theorem strsOf_some : ∀ {es : List (List AV)} {l : List ByteArray}, strsOf es = some l → es = l.map strC
  | [], l, h => by simp only [strsOf, Option.some.injEq] at h; subst h; rfl
  | e :: es, l, h => by
    unfold strsOf at h
    split at h
    · rename_i he; simp at he
    · rename_i x r he
      simp only [List.cons.injEq] at he
      obtain ⟨rfl, rfl⟩ := he
      simp only [Option.map_eq_some_iff] at h
      obtain ⟨l', h1, rfl⟩ := h
      rw [strsOf_some h1]; rfl
    · simp at h
def putS (l : List ByteArray) (s : ByteArray) : List ByteArray :=
  match l with
  | [] => [s]
  | x :: r => if sLt x s = true then x :: putS r s else if sEq x s = true then x :: r else s :: x :: r
def uniS (l : List ByteArray) : List ByteArray := l.foldl putS []
def uniC (args : List AV) (S : List Ent) (tk : List Nat) (n : Nat) : Option (AV × List Ent × List Nat × Nat) := match args with
    | [.frz es _, .frz [] .nilc] => match strsOf es with
      | some l => if l.length ≤ 1000000 then some (strsA (uniS l), S, tk, n) else none
      | none => none
    | _ => none
def cloC (args : List AV) (S : List Ent) (tk : List Nat) (n : Nat) : Option (AV × List Ent × List Nat × Nat) := match args with
    | [.mref i e] => (mapAt S i e).map fun s => (.mref S.length n, S ++ [⟨n, [.mset s]⟩], tk, n + 1)
    | _ => none
def cpyC (args : List AV) (S : List Ent) (tk : List Nat) (n : Nat) : Option (AV × List Ent × List Nat × Nat) := match args with
    | [.mref i e, .mref j e'] => match mapAt S i e, mapAt S j e' with
      | some s, some s' => if i = j then none else some (.tup [], put S i ⟨e, [.mset (uniK s s')]⟩, tk, n)
      | _, _ => none
    | _ => none
def clsC (args : List AV) (S : List Ent) (tk : List Nat) (n : Nat) : Option (AV × List Ent × List Nat × Nat) := match args with
    | [.frz es _] => match strsOf es with
      | some l => if l.length ≤ 1048576 then some (.frz es (.tok tk.length 0 1), S, tk ++ [0], n) else none
      | none => none
    | _ => none
def cldC (args : List AV) (S : List Ent) (tk : List Nat) (n : Nat) : Option (AV × List Ent × List Nat × Nat) := match args with
    | [.frz es _] => if (rowsOk 25 es && decide (es.length ≤ 1048576)) = true then some (.frz es (.tok tk.length 0 25), S, tk ++ [0], n) else none
    | _ => none
def delB (l : List ByteArray) (s : ByteArray) : List ByteArray := l.filter fun x => !sEq x s
def witC (args : List AV) (S : List Ent) (tk : List Nat) (n : Nat) : Option (AV × List Ent × List Nat × Nat) := match args with
    | [.frz es _, .prim (.string s)] => match strsOf es with
      | some l => if l.length ≤ 1048576 then some (.frz ((delB l s).map strC) (.tok tk.length ((delB l s).length - 1) 1), S, tk ++ [(delB l s).length - 1], n) else none
      | none => none
    | _ => none
structure InsQ where
  ci : Nat
  ce : Nat
  gi : Nat
  ge : Nat
  hi : Nat
  he : Nat
  e : XT
  bs : List ByteArray
def insArgs (q : InsQ) : List AV := [.agg [.mref q.ci q.ce, .mref q.gi q.ge], .agg (exprC q.e), .mref q.hi q.he, strsA q.bs]
theorem insArgs_inj {q r : InsQ} (h : insArgs q = insArgs r) : q = r := by
  simp only [insArgs, strsA, List.cons.injEq, AV.agg.injEq, AV.mref.injEq, AV.frz.injEq, and_true] at h
  obtain ⟨⟨⟨h1, h2⟩, h3, h4⟩, h5, ⟨h6, h7⟩, h8⟩ := h
  cases q; cases r
  simp only at h1 h2 h3 h4 h5 h6 h7 h8
  rw [h1, h2, h3, h4, exprC_inj h5, h6, h7, strs_inj h8]
def InsOk (d : Nat) (q : InsQ) : Prop := dpX q.e ≤ d ∧ szX q.e ≤ 262144 ∧ q.bs.length ≤ 1048576 ∧ q.gi ≠ q.hi
abbrev CallI := List AV → List Ent → List Nat → Nat → Option (AV × List Ent × List Nat × Nat)
noncomputable def callU (ins : CallI) (f : FuncId) (args : List AV) (S : List Ent) (tk : List Nat) (n : Nat) : Option (AV × List Ent × List Nat × Nat) :=
  if f == 35 then uniC args S tk n else if f == 61 then cloC args S tk n else if f == 87 then cpyC args S tk n
  else if f == 63 then ins args S tk n else if f == 55 then clsC args S tk n else if f == 26 then cldC args S tk n else if withF f = true then witC args S tk n else none
noncomputable def copyL : Code := (Tryz.f87.body.bind rngIn).getD .skip
noncomputable def insL : Code := (Tryz.f63.body.bind rngIn).getD .skip
def lpCopy (st : St) : Option St :=
  if st.T.length = 16 then (match getT st.T 0, getT st.T 1 with
    | .mref i e, .mref j e' => match mapAt st.S i e, mapAt st.S j e' with
      | some s, some s' => if i = j then none else some ⟨bots 16, put st.S i ⟨e, [.mset (uniK s s')]⟩, st.tk, st.n⟩
      | _, _ => none
    | _, _ => none) else none
def mapIn (o : Option (List AV)) : Option (Nat × Nat) :=
  match o with
  | some [_, .mref i e] => some (i, e)
  | _ => none
def lpIns (st : St) : Option St :=
  if st.T.length = 46 then (match getT st.T 3, getT st.T 4, getT st.T 9 with
    | .frz es c, .ref pi pe 0, .ref ii ie 0 => match strsOf es, mapIn (entAt st.S pi pe), mapIn (entAt st.S ii ie) with
      | some bs, some (gi, ge), some (oi, oe) => match mapAt st.S gi ge, mapAt st.S oi oe with
        | some G, some H => if gi = oi ∨ 1048576 < bs.length then none else some ⟨bots 46, put st.S gi ⟨ge, [.mset (uniK G (outK H bs))]⟩, st.tk, st.n⟩
        | _, _ => none
      | _, _, _ => none
    | _, _, _ => none) else none
open Classical in
noncomputable def lpU (c : Code) (st : St) : Option St := if c = copyL then lpCopy st else if c = insL then lpIns st else none
@[reducible] noncomputable def EIx (ins : CallI) : Ext Tryz.prog where
  on := fun f => f == 35 || f == 61 || f == 87 || f == 63 || f == 55 || f == 26 || withF f
  mv := mvF0
  call := callU ins
  lp := lpU
noncomputable def insB (E : Ext Tryz.prog) : CallI := fun args S tk n =>
  if (args.map w2).all pure2 = true then none else finS S.length (@RK _ Tryz.prog E Tryz.f63 (Tryz.f63.body.getD .skip) ⟨args ++ bots (46 - args.length), S, tk, n⟩ [])
noncomputable def insD : Nat → CallI
  | 0 => fun _ _ _ _ => none
  | d + 1 => insB (EIx (insD d))
@[reducible] noncomputable def EI (d : Nat) : Ext Tryz.prog := EIx (insD d)
def insArgsC (q : InsQ) (c : Cap) : List AV := [.agg [.mref q.ci q.ce, .mref q.gi q.ge], .agg (exprC q.e), .mref q.hi q.he, .frz (q.bs.map strC) c]
def InsP (d : Nat) : Prop := ∀ q : InsQ, InsOk d q → ∀ (c : Cap) (S : List Ent) (tk : List Nat) (k : Nat) (G C : Sn), mapAt S q.gi q.ge = some G → mapAt S q.hi q.he = some C →
  ∃ tk' k', insD d (insArgsC q c) S tk k = some (.bool (insF q.e C q.bs G).isSome, put S q.gi ⟨q.ge, [.mset ((insF q.e C q.bs G).getD G)]⟩, tk', k')
class Depth where
  d : Nat
  hp : InsP d
@[reducible] noncomputable instance E0 [D : Depth] : Ext Tryz.prog := EI D.d
theorem ext_mv [Depth] (f : FuncId) (h : CkF (mvF0 f)) : Ext.mv Tryz.prog f = false := h.h
theorem ext_mvT [Depth] (f : FuncId) (h : CkT (mvF0 f)) : Ext.mv Tryz.prog f = true := h.h
set_option linter.defProp false in
def ev0 [Depth] := And.intro ext_mv <| And.intro ext_mvT <| And.intro @entAt.eq_def <| And.intro evt tys
set_option linter.defProp false in
def evs0 [Depth] := And.intro ext_mv <| And.intro ext_mvT <| And.intro @entAt_new <| And.intro @entAt_old <| And.intro @entAt_old2 <| And.intro @List.take_left.{0} <| And.intro @List.take_length.{0} <| And.intro evt tys
section
variable [Depth] (S : List Ent) (tk : List Nat) (k : Nat)
theorem names_Union (l : List ByteArray) (c : Cap) (hl : l.length ≤ 1000000) : cL Tryz.prog 35 [.frz (l.map strC) c, .frz [] .nilc] S tk k = some (strsA (uniS l), S, tk, k) := by
  refine call_ext rfl ?_
  show callU _ _ _ _ _ _ = _
  simp [callU, uniC, strsOf_map, hl]
theorem maps_Clone {i e : Nat} {s : Sn} (h : mapAt S i e = some s) : cL Tryz.prog 61 [.mref i e] S tk k = some (.mref S.length k, S ++ [⟨k, [.mset s]⟩], tk, k + 1) := by
  refine call_ext rfl ?_
  show callU _ _ _ _ _ _ = _
  simp [callU, cloC, h]
theorem maps_Copy {i e j e' : Nat} {s s' : Sn} (h : mapAt S i e = some s) (h' : mapAt S j e' = some s') (hne : i ≠ j) : cL Tryz.prog 87 [.mref i e, .mref j e'] S tk k = some (.tup [], put S i ⟨e, [.mset (uniK s s')]⟩, tk, k) := by
  refine call_ext rfl ?_
  show callU _ _ _ _ _ _ = _
  simp [callU, cpyC, h, h', hne]
theorem slices_CloneT (l : List ByteArray) (c : Cap) (hl : l.length ≤ 1048576) : cL Tryz.prog 55 [.frz (l.map strC) c] S tk k = some (.frz (l.map strC) (.tok tk.length 0 1), S, tk ++ [0], k) := by
  refine call_ext rfl ?_
  show callU _ _ _ _ _ _ = _
  simp [callU, clsC, strsOf_map, hl]
theorem slices_CloneD (es : List (List AV)) (c : Cap) (hr : rowsOk 25 es = true) (hl : es.length ≤ 1048576) : cL Tryz.prog 26 [.frz es c] S tk k = some (.frz es (.tok tk.length 0 25), S, tk ++ [0], k) := by
  refine call_ext rfl ?_
  show callU _ _ _ _ _ _ = _
  simp [callU, cldC, hr, hl]
theorem R28_without (l : List ByteArray) (s : ByteArray) (c : Cap) (hl : l.length ≤ 1048576) : cL Tryz.prog 68 [.frz (l.map strC) c, .str s] S tk k = some (.frz ((delB l s).map strC) (.tok tk.length ((delB l s).length - 1) 1), S, tk ++ [(delB l s).length - 1], k) := by
  refine call_ext rfl ?_
  show callU _ _ _ _ _ _ = _
  simp [callU, witC, withF, strsOf_map, hl]
theorem path_inside {q : InsQ} {c : Cap} (ho : InsOk Depth.d q) {G C : Sn} (hG : mapAt S q.gi q.ge = some G) (hC : mapAt S q.hi q.he = some C) : ∃ tk' k', cL Tryz.prog 63 (insArgsC q c) S tk k = some (.bool (insF q.e C q.bs G).isSome, put S q.gi ⟨q.ge, [.mset ((insF q.e C q.bs G).getD G)]⟩, tk', k') := by
  obtain ⟨tk', k', h⟩ := Depth.hp q ho c S tk k G C hG hC
  refine ⟨tk', k', call_ext rfl ?_⟩
  show callU _ _ _ _ _ _ = _
  rw [← h]
  simp [callU]
end
end Go.Proofs.YtmkoiandfojgmaaGreat
namespace Go.Proofs.YtmkoiandfojgmaaGreat
open Go
def i64 (n : Int) : Prop := -9223372036854775808 ≤ n ∧ n ≤ 9223372036854775807
theorem wrap_of {n : Int} (h : i64 n) : IntKind.i64.wrap n = n := Go.IntWalk.i64_in n h
theorem wrap_add {i : Nat} (h : i ≤ 1048576) : IntKind.i64.wrap ((i : Int) + 1) = ((i + 1 : Nat) : Int) := by rw [wrap_of (by unfold i64; omega)]; omega
theorem wrap_addN {i j : Nat} (h : i + j ≤ 4194304) : IntKind.i64.wrap ((i : Int) + (j : Int)) = ((i + j : Nat) : Int) := by rw [wrap_of (by unfold i64; omega)]; omega
theorem nth_drop {α : Type} : ∀ {l : List α} {i : Nat} {x : α}, nth l i = some x → l.drop i = x :: l.drop (i + 1)
  | y :: l, 0, x, h => by simp only [nth, Option.some.injEq] at h; subst h; rfl
  | _ :: l, i + 1, x, h => nth_drop (l := l) (i := i) h
  | [], _, _, h => by simp [nth] at h
theorem rowsOk_strs (l : List ByteArray) : rowsOk 1 (l.map strC) = true := rowsOk_map (f := strC) (sz := 1) (fun _ => rfl) l
theorem rowsOk_exprs (l : List XT) : rowsOk 7 (exprsC l) = true := by rw [exprsC_map]; exact rowsOk_map (f := exprC) (sz := 7) exprC_seven l
section
variable {P : Program} {fn : Func} {k : List Kont}
abbrev Rs := AV × List Ent × List Nat × Nat
def Gd (fin : Option (AV × St) → Option Rs) (Φ : Rs → Prop) (x : Option (AV × St)) : Prop := ∃ r, fin x = some r ∧ Φ r
theorem GdS_BR {m : Nat} {Φ : Rs → Prop} {t : Bool} {a b : Option (AV × St)} {tg : Tag (a, b)} : Gd (finS m) Φ (BR (some t) a b tg) ↔ (t = true → Gd (finS m) Φ a) ∧ (t = false → Gd (finS m) Φ b) := by
  cases t <;> simp [BR, br]
theorem GdM_BR {Φ : Rs → Prop} {t : Bool} {a b : Option (AV × St)} {tg : Tag (a, b)} : Gd finM Φ (BR (some t) a b tg) ↔ (t = true → Gd finM Φ a) ∧ (t = false → Gd finM Φ b) := by
  cases t <;> simp [BR, br]
theorem GdS_some {m : Nat} {Φ : Rs → Prop} {r : AV} {s : St} : Gd (finS m) Φ (some (r, s)) ↔ Φ (fz3 m s.S r, s.S.take m, s.tk, s.n) := by simp [Gd, finS]
theorem GdM_some {Φ : Rs → Prop} {r : AV} {s : St} : Gd finM Φ (some (r, s)) ↔ Φ (r, s.S, s.tk, s.n) := by simp [Gd, finM]
theorem loopG [Globs] [Ext P] {ι : Type} {c : Code} {fin : Option (AV × St) → Option Rs} {Φ : Rs → Prop} {tg : Tag (Code.loop c, k)} (I : ι → St → Prop) (μ : ι → Nat) (x : ι)
    (h : ∀ x st, I x st → (∀ y st', μ y < μ x → I y st' → Gd fin Φ (KX P fn (.loop c) st' k .mk)) → Gd fin Φ (KX P fn c st (.loop c st.S.length :: k) .mk)) {st : St} (h0 : I x st) : Gd fin Φ (KX P fn (.loop c) st k tg) := by
  have key : ∀ n x st, μ x = n → I x st → Gd fin Φ (KX P fn (.loop c) st k .mk) := by
    intro n
    induction n using Nat.strongRecOn with
    | _ n ih =>
      intro x st hn hI
      show Gd fin Φ (RK P fn (.loop c) st k)
      rw [RK_loop]
      exact h x st hI fun y st' hlt hy => ih (μ y) (hn ▸ hlt) y st' rfl hy
  exact key _ x st rfl h0
theorem call_sharedG [Globs] [Ext P] {f : FuncId} {c : Code} (hf : P.funcs[f]? = some fn) (hx : (Ext.on P f || Ext.mv P f) = false) (hb : fn.body = some c) (hname : (fn.name == "runtime.NumGoroutine") = false) {args : List AV} {nt : Nat} (hnt : fn.ntmps = nt) (hp : (args.map w2).all pure2 = false) {S : List Ent} {tk : List Nat} {n : Nat} {Φ : Rs → Prop}
    (h : Gd (finS S.length) Φ (RK P fn c ⟨args ++ bots (nt - args.length), S, tk, n⟩ [])) : ∃ r, cL P f args S tk n = some r ∧ Φ r := by
  obtain ⟨r, h1, h2⟩ := h
  exact ⟨r, call_shared hf hx hb hname hnt hp h1, h2⟩
theorem call_mvG [Globs] [Ext P] {f : FuncId} {c : Code} (hf : P.funcs[f]? = some fn) (hx : (!Ext.on P f && Ext.mv P f) = true) (hb : fn.body = some c) (hname : (fn.name == "runtime.NumGoroutine") = false) {args : List AV} {nt : Nat} (hnt : fn.ntmps = nt) {S : List Ent} {tk : List Nat} {n : Nat} {Φ : Rs → Prop}
    (h : Gd finM Φ (RK P fn c ⟨args ++ bots (nt - args.length), S, tk, n⟩ [])) : ∃ r, cL P f args S tk n = some r ∧ Φ r := by
  obtain ⟨r, h1, h2⟩ := h
  exact ⟨r, call_mv hf hx hb hname hnt h1, h2⟩
end
section
variable {P : Program} {fn : Func} [Globs] [Ext P] {f : FuncId} {c : Code} {args : List AV} {nt : Nat} {S : List Ent} {tk : List Nat} {n : Nat} {Φ : Rs → Prop}
theorem opG (hf : P.funcs[f]? = some fn) (hnt : fn.ntmps = nt) (h : Gd (finS S.length) Φ (KX P fn c ⟨args ++ bots (nt - args.length), S, tk, n⟩ [] .mk)) (hx : (Ext.on P f || Ext.mv P f) = false := by exact rfl) (hb : fn.body = some c := by exact rfl) (hname : (fn.name == "runtime.NumGoroutine") = false := by decide +kernel) (hp : (args.map w2).all pure2 = false := by exact rfl) : ∃ r, cL P f args S tk n = some r ∧ Φ r := call_sharedG hf hx hb hname hnt hp h
theorem opM (hf : P.funcs[f]? = some fn) (hnt : fn.ntmps = nt) (h : Gd finM Φ (KX P fn c ⟨args ++ bots (nt - args.length), S, tk, n⟩ [] .mk)) (hx : (!Ext.on P f && Ext.mv P f) = true := by exact rfl) (hb : fn.body = some c := by exact rfl) (hname : (fn.name == "runtime.NumGoroutine") = false := by decide +kernel) : ∃ r, cL P f args S tk n = some r ∧ Φ r := call_mvG hf hx hb hname hnt h
end
set_option linter.defProp false in
def evg1 [Depth] := And.intro @GdS_BR <| And.intro @GdM_BR <| And.intro @GdS_some <| And.intro @GdM_some <| And.intro @mapAt_old evs0
theorem nth_put_lt {α : Type} : ∀ {l : List α} {i : Nat} {v : α}, i < l.length → nth (put l i v) i = some v
  | _ :: _, 0, _, _ => rfl
  | _ :: l, i + 1, v, h => nth_put_lt (l := l) (by simpa using h)
  | [], _, _, h => by simp at h
theorem nth_old {l : List Ent} {x : Ent} {i : Nat} (h : i < l.length) : nth (l ++ [x]) i = nth l i := by rw [nth_get, nth_get, List.getElem?_append_left h]
theorem entAt_lt {S : List Ent} {id ep : Nat} {cs : List AV} (h : entAt S id ep = some cs) : id < S.length := by obtain ⟨e, h1, -⟩ := entAt_some h; exact nth_lt h1
theorem mapAt_lt {S : List Ent} {id ep : Nat} {s : Sn} (h : mapAt S id ep = some s) : id < S.length := nth_lt (mapAt_some h)
theorem entAt_nth {S S' : List Ent} {id ep : Nat} (h : nth S' id = nth S id) : entAt S' id ep = entAt S id ep := by unfold entAt; rw [h]
theorem mapAt_put {S : List Ent} {id ep : Nat} {s : Sn} (h : id < S.length) : mapAt (put S id ⟨ep, [.mset s]⟩) id ep = some s := mapAt_of (nth_put_lt h)
theorem mapAt_put_other {S : List Ent} {j id ep : Nat} {x : Ent} (h : j ≠ id) : mapAt (put S j x) id ep = mapAt S id ep := mapAt_nth (nth_put_other h)
theorem entAt_put_other {S : List Ent} {j id ep : Nat} {x : Ent} (h : j ≠ id) : entAt (put S j x) id ep = entAt S id ep := entAt_nth (nth_put_other h)
theorem put_put {α : Type} : ∀ {l : List α} {i : Nat} {v w : α}, put (put l i v) i w = put l i w
  | [], _, _, _ => rfl
  | _ :: _, 0, _, _ => rfl
  | _ :: l, i + 1, _, _ => by simp only [put, put_put (l := l)]
theorem put_same {S : List Ent} {id ep : Nat} {s : Sn} (h : mapAt S id ep = some s) : put S id ⟨ep, [.mset s]⟩ = S := put_self (mapAt_some h)
theorem put_app {S X : List Ent} {i : Nat} {v : Ent} (h : i < S.length) : put (S ++ X) i v = put S i v ++ X := by
  induction S generalizing i with
  | nil => simp at h
  | cons a S ih => cases i with
    | zero => rfl
    | succ i => simp only [List.cons_append, put, ih (by simpa using h)]
theorem take_app {S X : List Ent} : (S ++ X).take S.length = S := List.take_left
theorem sEq_comm (a b : ByteArray) : sEq a b = sEq b a := by unfold sEq; exact Bool.beq_comm
theorem bloop_eq (s : ByteArray) : ∀ (n i : Nat) (r : List UInt8), s.size - i = n → ByteArray.toList.loop s i r = r.reverse ++ s.data.toList.drop i := by
  intro n
  induction n with
  | zero =>
    intro i r h
    rw [ByteArray.toList.loop, if_neg (by omega), List.drop_eq_nil_of_le (by simp; omega), List.append_nil]
  | succ n ih =>
    intro i r h
    have hi : i < s.data.size := by simp; omega
    rw [ByteArray.toList.loop, if_pos (by omega), ih (i + 1) _ (by omega), List.reverse_cons, List.append_assoc]
    congr 1
    have e : s.data.toList.drop i = s.data[i] :: s.data.toList.drop (i + 1) := by
      rw [← Array.getElem_toList hi, List.getElem_cons_drop]
    rw [e, List.singleton_append]
    congr 1
    show s.data[i]! = _
    rw [getElem!_pos s.data i hi]
theorem toList_data (s : ByteArray) : s.toList = s.data.toList := by
  rw [ByteArray.toList, bloop_eq s _ 0 [] rfl]; simp
theorem sEq_iff (s t : ByteArray) : sEq s t = true ↔ s = t := by
  unfold sEq
  rw [toList_data, toList_data, beq_iff_eq]
  constructor
  · intro h
    apply ByteArray.ext
    exact Array.toList_inj.1 h
  · rintro rfl; rfl
theorem sEq_dec (s t : ByteArray) : sEq s t = decide (s = t) := by
  by_cases h : s = t
  · rw [decide_eq_true h]; exact (sEq_iff s t).2 h
  · rw [decide_eq_false h]
    cases hq : sEq s t with
    | false => rfl
    | true => exact absurd ((sEq_iff s t).1 hq) h
theorem memB_iff {l : List ByteArray} {s : ByteArray} : memB l s = true ↔ s ∈ l := by
  unfold memB
  rw [List.any_eq_true]
  constructor
  · rintro ⟨x, hx, h⟩; rw [(sEq_iff x s).1 h] at hx; exact hx
  · intro h; exact ⟨s, h, (sEq_iff s s).2 rfl⟩
end Go.Proofs.YtmkoiandfojgmaaGreat
namespace Go.Proofs.YtmkoiandfojgmaaGreat
open Go
def findF (i : Nat) : List ByteArray → ByteArray → Int
  | [], _ => -1
  | x :: l, s => if sEq x s then i else findF (i + 1) l s
theorem findF_nn : ∀ (l : List ByteArray) (i : Nat) (s : ByteArray), decide (findF i l s ≥ 0) = memB l s
  | [], _, _ => rfl
  | x :: l, i, s => by
    unfold memB
    rw [List.any_cons]
    by_cases h : sEq x s = true
    · have e : findF i (x :: l) s = i := if_pos h
      rw [e, h]; simp
    · have e : findF i (x :: l) s = findF (i + 1) l s := if_neg h
      have h' : sEq x s = false := by simpa using h
      rw [e, h', Bool.false_or]
      exact findF_nn l (i + 1) s
section
variable [Depth] (S : List Ent) (tk : List Nat) (k : Nat)
theorem slices_Index (l : List ByteArray) (s : ByteArray) (hlen : l.length ≤ 1048576) : cL Tryz.prog 83 [strsA l, .str s] S tk k = some (.int (findF 0 l s), S, tk, k) := by
  refine opP Tryz.func83 Tryz.ntmps83 ?_
  simp (maxSteps := 10^6) +contextual (disch := try exact dqd) only [ev0, simprocAttr, AV.int, AV.bool, AV.str, Tryz.results83, strsA]
  refine loop1 (P := Tryz.prog) (fun x st => st.T.length = 19 ∧ (x ≤ l.length) ∧ (findF 0 l s = findF x (l.drop x) s) ∧ getT st.T 0 = strsA l ∧ getT st.T 1 = .str s ∧ getT st.T 7 = .int (l.length : Nat) ∧ getT st.T 8 = .int (x : Nat) ∧ st.S = []) (fun x => l.length - x) (fun x => .int (findF 0 l s)) (0) ?_ ?_
  case refine_2 => exact ⟨rfl, Nat.zero_le _, rfl, rfl, rfl, rfl, rfl, rfl⟩
  rintro i ⟨T, S', tk', n'⟩ ⟨hl, hi, hA, e0, e1, e7, e8, eS⟩ IH
  subst eS
  obtain ⟨g, hg, hT⟩ := tab_of hl
  rw [hg] at e0 e1 e7 e8
  subst hT
  clear hg hl
  by_cases la : i < l.length
  · have d1 : decide ((i : Int) < (l.length : Int)) = true := by simpa using la
    obtain ⟨x, hx⟩ := nth_some la
    have hx' := nth_strs hx
    have hw := wrap_add (i := i) (by omega)
    rw [nth_drop hx] at hA
    simp only [findF] at hA
    have hsy := sEq_comm s x
    cases hq : sEq x s <;> rw [hq] at hA hsy
    · simp (maxSteps := 10^6) +contextual (disch := try exact dqd) only [ev0, simprocAttr, AV.int, AV.bool, AV.str, Tryz.results83, e0, e1, e7, e8, d1, hx', hw, strC, strsA, hsy]
      exact IH (i + 1) _ (by omega) ⟨rfl, by omega, by simpa using hA, rfl, rfl, rfl, rfl, rfl⟩
    · simp (maxSteps := 10^6) +contextual (disch := try exact dqd) only [ev0, simprocAttr, AV.int, AV.bool, AV.str, Tryz.results83, e0, e1, e7, e8, d1, hx', hw, strC, strsA, hsy]
      simpa using hA.symm
  · have d1 : decide ((i : Int) < (l.length : Int)) = false := by simpa using la
    have he : i = l.length := by omega
    simp (maxSteps := 10^6) +contextual (disch := try exact dqd) only [ev0, simprocAttr, AV.int, AV.bool, AV.str, Tryz.results83, e0, e1, e7, e8, d1]
    rw [hA, he, List.drop_length]; rfl
theorem slices_ContainsU (l : List ByteArray) (s : ByteArray) (hlen : l.length ≤ 1048576) : cL Tryz.prog 53 [strsA l, .str s] S tk k = some (.bool (memB l s), S, tk, k) := by
  refine opP Tryz.func53 Tryz.ntmps53 ?_
  have c := fun S tk k => slices_Index S tk k l s hlen
  simp only [strsA] at c
  have hn := findF_nn l 0 s
  simp (maxSteps := 10^6) +contextual (disch := try exact dqd) only [ev0, simprocAttr, AV.int, AV.bool, AV.str, Tryz.results53, c, strsA, hn]
theorem slices_Contains (l : List ByteArray) (c : Cap) (s : ByteArray) (hlen : l.length ≤ 1048576) : cL Tryz.prog 53 [.frz (l.map strC) c, .str s] S tk k = some (.bool (memB l s), S, tk, k) := by
  rw [← slices_ContainsU S tk k l s hlen]
  exact cL_w2 rfl rfl rfl
theorem unique_cell (t : TT) : cL Tryz.prog 44 [.agg (typeC t)] S tk k = some (.bool (isCell t), S, tk, k) := by
  obtain ⟨o, s, a, ns, p, ps⟩ := t
  obtain ⟨po, pn, pv, pk⟩ := p
  refine opP Tryz.func44 Tryz.ntmps44 ?_
  simp (maxSteps := 10^6) +contextual (disch := try exact dqd) only [ev0, simprocAttr, AV.int, AV.bool, AV.str, Tryz.results44, typeC, predC, strsA, isCell, TT.op]
end
end Go.Proofs.YtmkoiandfojgmaaGreat
namespace Go.Proofs.YtmkoiandfojgmaaGreat
open Go
def strV (s : ByteArray) : AV := .prim (.string s)
theorem mk_strs {l c : Nat} (h : l ≤ c) (hc : c ≤ 1048576) : mkA Tryz.prog 44 (.prim (.int .i64 (l : Nat))) (.prim (.int .i64 (c : Nat))) = some (l, 1, List.replicate c (strV ⟨#[]⟩)) := by
  have e1 : elemOf Tryz.prog 44 = some 9 := by kernel_rfl
  have e2 : zeroOf Tryz.prog 9 = some [strV ⟨#[]⟩] := by kernel_rfl
  have e3 : szOf Tryz.prog 9 = some 1 := by kernel_rfl
  have e4 : bytesOf Tryz.prog 9 = some 16 := by kernel_rfl
  unfold mkA
  simp only [e1, Option.bind_some, e2, e3, e4, intN, Int.natCast_nonneg, if_true, Int.toNat_natCast, mkB]
  rw [if_pos ⟨h, hc, by omega, rfl⟩]
  simp [flat_one]
theorem flat_strs : ∀ (l : List ByteArray), (l.map strC).flatten = l.map strV
  | [] => rfl
  | x :: l => by simp [strC, strV, flat_strs l]
theorem over_front : ∀ (vs cs : List AV), vs.length ≤ cs.length → over cs 0 vs = some (vs ++ cs.drop vs.length)
  | [], cs, _ => by cases cs <;> simp [over]
  | v :: vs, c :: cs, h => by simp only [over, over_front vs cs (by simpa using h), Option.map_some, List.cons_append, List.length_cons, List.drop_succ_cons]
  | v :: vs, [], h => by simp at h
theorem cp_strs {S : List Ent} {id ep : Nat} {cs : List AV} {l : List ByteArray} {t t' : TypeId} (h : entAt S id ep = some cs) (hl : l.length ≤ cs.length) :
    cpA Tryz.prog 44 (.sref id ep 0 l.length 1) (.frz (l.map strC) .unk) S = some (l.length, put S id ⟨ep, l.map strV ++ cs.drop l.length⟩) := by
  have e1 : elemOf Tryz.prog 44 = some 9 := by kernel_rfl
  have e3 : szOf Tryz.prog 9 = some 1 := by kernel_rfl
  unfold cpA
  simp only [lenA, List.length_map, e1, Option.bind_some, e3, if_true, Nat.min_self, srcA, rowsOk_strs, h, List.drop_zero]
  rw [List.take_of_length_le (by simp), flat_strs]
  simp only [over_front (l.map strV) cs (by simpa using hl), List.length_map]
  rw [if_pos (by simp [leafOk, strV, Value.oneCell'])]
theorem ap_str {S : List Ent} {id ep n : Nat} {cs : List AV} {l : List ByteArray} {s : ByteArray} {c : Cap} (h : entAt S id ep = some cs) (hl : l.length ≤ cs.length) (ht : cs.take l.length = l.map strV) (hn : l.length + 1 ≤ 1048576) :
    apO Tryz.prog 44 (.sref id ep 0 l.length 1) (.frz [[.prim (.string s)]] c) S n = some (.sref id n 0 (l ++ [s]).length 1, put S id ⟨n, (l ++ [s]).map strV⟩, n + 1) := by
  have e1 : apT Tryz.prog 44 = some 1 := by kernel_rfl
  unfold apO
  simp only [e1, litC]
  rw [if_pos (by simp [rowsOk, leafOk, Value.oneCell'])]
  simp only [List.length_cons, List.length_nil, Nat.zero_add]
  rw [if_pos (by simp [roomy])]
  unfold apO2
  simp only [if_true, h, Nat.mul_one]
  rw [if_pos ⟨hl, by simp only [roomy, decide_eq_true_eq]; omega⟩, ht]
  simp [strV]
def repS (c : Nat) : List AV := List.replicate c (strV ⟨#[]⟩)
theorem notM_repS (c : Nat) : notM (repS c) = true := by cases c <;> rfl
theorem notM_strs (l : List ByteArray) (r : List AV) (hr : notM r = true) : notM (l.map strV ++ r) = true := by cases l <;> first | exact hr | rfl
theorem mk_strsR {l c : Nat} (h : l ≤ c) (hc : c ≤ 1048576) : mkA Tryz.prog 44 (.prim (.int .i64 (l : Nat))) (.prim (.int .i64 (c : Nat))) = some (l, 1, repS c) := mk_strs h hc
def OwnL (S : List Ent) (id ep : Nat) (l : List ByteArray) : Prop := ∃ cs, entAt S id ep = some cs ∧ l.length ≤ cs.length ∧ cs.take l.length = l.map strV
theorem ap_own {S : List Ent} {id ep n : Nat} {l : List ByteArray} {s : ByteArray} {c : Cap} (h : OwnL S id ep l) (hn : l.length + 1 ≤ 1048576) :
    apO Tryz.prog 44 (.sref id ep 0 l.length 1) (.frz [[.prim (.string s)]] c) S n = some (.sref id n 0 (l ++ [s]).length 1, put S id ⟨n, (l ++ [s]).map strV⟩, n + 1) := by
  obtain ⟨cs, h1, h2, h3⟩ := h
  exact ap_str h1 h2 h3 hn
theorem ap_ownM {S : List Ent} {id ep n m : Nat} {l : List ByteArray} {s : ByteArray} {c : Cap} (h : OwnL S id ep l) (hm : l.length = m) (hn : m + 1 ≤ 1048576) :
    apO Tryz.prog 44 (.sref id ep 0 m 1) (.frz [[.prim (.string s)]] c) S n = some (.sref id n 0 (m + 1) 1, put S id ⟨n, (l ++ [s]).map strV⟩, n + 1) := by
  subst hm
  rw [ap_own h hn]
  simp
theorem OwnL.lt {S : List Ent} {id ep : Nat} {l : List ByteArray} (h : OwnL S id ep l) : id < S.length := by obtain ⟨cs, h1, -⟩ := h; exact entAt_lt h1
theorem OwnL_put {S : List Ent} {id n : Nat} {l : List ByteArray} (h : id < S.length) : OwnL (put S id ⟨n, l.map strV⟩) id n l := by
  refine ⟨l.map strV, ?_, by simp, List.take_of_length_le (by simp)⟩
  unfold entAt
  rw [nth_put_lt h]
  have : notM (l.map strV) = true := by cases l <;> rfl
  simp [this]
theorem OwnL.old {S : List Ent} {id ep : Nat} {l : List ByteArray} {x : Ent} (h : OwnL S id ep l) : OwnL (S ++ [x]) id ep l := by
  obtain ⟨cs, h1, h2, h3⟩ := h
  exact ⟨cs, entAt_old h1, h2, h3⟩
theorem OwnL_nth {S S' : List Ent} {id ep : Nat} {l : List ByteArray} (h : OwnL S id ep l) (hn : nth S' id = nth S id) : OwnL S' id ep l := by
  obtain ⟨cs, h1, h2, h3⟩ := h
  exact ⟨cs, by rw [entAt_nth hn]; exact h1, h2, h3⟩
theorem rows_take : ∀ {l : List ByteArray} {cs : List AV}, cs.take l.length = l.map strV → rowsAt 1 l.length cs = some (l.map fun x => [strV x])
  | [], _, _ => by simp [rowsAt]
  | x :: l, [], h => by simp at h
  | x :: l, c :: cs, h => by
    simp only [List.length_cons, List.take_succ_cons, List.map_cons, List.cons.injEq] at h
    obtain ⟨rfl, h⟩ := h
    simp only [List.length_cons, rowsAt, takeN, Option.map_some, List.drop_succ_cons, List.drop_zero, rows_take h, List.map_cons]
theorem fz_ownS {S : List Ent} {id ep : Nat} {l : List ByteArray} (h : OwnL S id ep l) : fzB (entAt S id ep) 0 l.length 1 = strsA l := by
  obtain ⟨cs, h1, h2, h3⟩ := h
  rw [h1]
  simp only [fzB, List.drop_zero, rows_take h3, rowsFz]
  rw [if_pos (by simp [strV, w1, pure1, Value.oneCell'])]
  unfold strsA
  congr 1
  simp [strV, w1, strC]
theorem under_take (ps : List (ByteArray × TT)) (j : Nat) (p : ByteArray × TT) (h : nth ps j = some p) : (ps.take (j + 1)).map (·.1) = (ps.take j).map (·.1) ++ [p.1] := by
  rw [nth_get] at h
  rw [List.take_add_one, h]
  simp
section
variable [Depth] (S : List Ent) (tk : List Nat) (k : Nat)
set_option maxRecDepth 100000 in
set_option maxHeartbeats 1000000 in
theorem unique_under (o : Int) (s : ByteArray) (n : Int) (ks : List XT) (ps : List (ByteArray × TT)) (al : List LT) (ts : List TT) (i : Nat) (bs : List ByteArray) (hb : bs.length + ps.length + 1 ≤ 1048576) :
    cL Tryz.prog 54 [.agg (exprC (.node o s n ks ps al ts)), .int i, strsA bs] S tk k = some (strsA (underF o s ps i bs), S, tk, k) := by
  obtain ⟨L0, hL0⟩ : ∃ L0, L0 = bs ++ (if o = 7 ∧ 0 < i then [s] else []) := ⟨_, rfl⟩
  have hR : underF o s ps i bs = L0 ++ (if o = 6 then ps.map (·.1) else []) := by rw [hL0]; rfl
  rw [hR]
  refine opP Tryz.func54 Tryz.ntmps54 ?_
  have hw1 := wrap_addN (i := bs.length) (j := ps.length) (by omega)
  have hw2 := wrap_add (i := bs.length + ps.length) (by omega)
  have hm := mk_strsR (l := bs.length) (c := bs.length + ps.length + 1) (by omega) hb
  obtain ⟨E, hE⟩ : ∃ E : Ent, E = ⟨0, [.prim (.int .i64 o), .prim (.string s), .prim (.int .i64 n), .frz (exprsC ks) .unk, .frz (ps.map paramC) .unk, .frz (altsC al) .unk, .frz (typesC ts) .unk]⟩ := ⟨_, rfl⟩
  have hcp : cpA Tryz.prog 44 (.sref 1 1 0 bs.length 1) (.frz (bs.map strC) .unk) [E, ⟨1, repS (bs.length + ps.length + 1)⟩] = _ := cp_strs (t := 0) (t' := 0) (cs := repS (bs.length + ps.length + 1)) (by unfold entAt; simp [Go.Proofs.YtmkoiandfojgmaaGreat.nth, notM_repS]) (by simp [repS]; omega)
  have hown : OwnL [E, ⟨1, bs.map strV ++ (repS (bs.length + ps.length + 1)).drop bs.length⟩] 1 1 bs := by
    refine ⟨bs.map strV ++ (repS (bs.length + ps.length + 1)).drop bs.length, ?_, ?_, List.take_left' (by simp)⟩
    · unfold entAt
      have : notM (bs.map strV ++ (repS (bs.length + ps.length + 1)).drop bs.length) = true := notM_strs _ _ (by unfold repS; rw [List.drop_replicate]; exact notM_repS _)
      simp [nth, this]
    · simp
  generalize hcc : bs.map strV ++ (repS (bs.length + ps.length + 1)).drop bs.length = cc at hcp hown
  have hap := ap_own (n := 2) (s := s) (c := .tight) hown (by omega)
  have put2 : ∀ (a b x : Ent), Go.Proofs.YtmkoiandfojgmaaGreat.put [a, b] 1 x = [a, x] := fun _ _ _ => rfl
  rw [put2] at hcp hap
  subst hE
  have hz := fz_ownS hown
  simp only [entAt, Go.Proofs.YtmkoiandfojgmaaGreat.nth, if_true, strsA] at hz
  by_cases h7 : o = 7
  · subst h7
    by_cases hi : 0 < i
    · have di : decide ((i : Int) > 0) = true := by simpa using hi
      have hl : L0 = bs ++ [s] := by rw [hL0, if_pos ⟨rfl, hi⟩]
      have hz2 := fz_ownS (OwnL_put (S := [⟨0, [.prim (.int .i64 7), .prim (.string s), .prim (.int .i64 n), .frz (exprsC ks) .unk, .frz (ps.map paramC) .unk, .frz (altsC al) .unk, .frz (typesC ts) .unk]⟩, ⟨1, cc⟩]) (id := 1) (n := 2) (l := bs ++ [s]) (by simp))
      simp only [put2, entAt, Go.Proofs.YtmkoiandfojgmaaGreat.nth, if_true, strsA] at hz2
      simp (maxSteps := 10^6) +contextual (disch := try exact dqd) only [ev0, simprocAttr, AV.int, AV.bool, AV.str, Tryz.results54, exprC, strsA, hw1, hw2, hm, hcp, hap, di, hz2]
      rw [hl]; simp
    · have di : decide ((i : Int) > 0) = false := by simpa using hi
      have hl : L0 = bs := by rw [hL0, if_neg (fun h => hi h.2), List.append_nil]
      simp (maxSteps := 10^6) +contextual (disch := try exact dqd) only [ev0, simprocAttr, AV.int, AV.bool, AV.str, Tryz.results54, exprC, strsA, hw1, hw2, hm, hcp, hap, di, hz]
      rw [hl]; simp
  · have d7 : (o == 7) = false := by simpa using h7
    have hl : L0 = bs := by rw [hL0, if_neg (fun h => h7 h.1), List.append_nil]
    by_cases h6 : o = 6
    · subst h6
      rw [if_pos rfl, hl]
      generalize hR2 : strsA (bs ++ ps.map (·.1)) = RR
      simp (maxSteps := 10^6) +contextual (disch := try exact dqd) only [ev0, simprocAttr, AV.int, AV.bool, AV.str, Tryz.results54, exprC, strsA, hw1, hw2, hm, hcp]
      simp only [strsA] at hR2
      clear hcp hap hz hL0 hR hm hw1 hw2 hcc put2
      generalize (⟨0, [.prim (.int .i64 6), .prim (.string s), .prim (.int .i64 n), .frz (exprsC ks) .unk, .frz (ps.map paramC) .unk, .frz (altsC al) .unk, .frz (typesC ts) .unk]⟩ : Ent) = E at hown ⊢
      refine loop1 (P := Tryz.prog) (fun x st => st.T.length = 52 ∧ (x.2.2.2 ≤ ps.length) ∧ (OwnL x.1 1 x.2.2.1 (bs ++ (ps.take x.2.2.2).map (·.1))) ∧ getT st.T 7 = .sref 1 x.2.2.1 0 (bs.length + x.2.2.2) 1 ∧ getT st.T 39 = .frz (ps.map paramC) .unk ∧ getT st.T 40 = .int (ps.length : Nat) ∧ getT st.T 41 = .int (x.2.2.2 : Nat) ∧ st.S = x.1 ∧ st.tk = [] ∧ st.n = x.2.1) (fun x => ps.length - x.2.2.2) (fun x => RR) (([E, ⟨1, cc⟩] : List Ent), (2 : Nat), (1 : Nat), (0 : Nat)) ?_ ?_
      case refine_2 => exact ⟨rfl, Nat.zero_le _, by simpa using hown, rfl, rfl, rfl, rfl, rfl, rfl, rfl⟩
      rintro ⟨SS, n1, e1, j⟩ ⟨T, S', tk', n'⟩ ⟨hl, hj, hO, e7, e39, e40, e41, eS, eT, eN⟩ IH
      simp only at hj hO e7 e39 e40 e41 eS eT eN
      subst eS eT eN
      obtain ⟨g, hg, hT⟩ := tab_of hl
      rw [hg] at e7 e39 e40 e41
      subst hT
      clear hg hl
      by_cases hlt : j < ps.length
      · have d1 : decide ((j : Int) < (ps.length : Int)) = true := by simpa using hlt
        obtain ⟨p, hp⟩ := nth_some hlt
        have hp' := nth_params hp
        have hstep := under_take ps j p hp
        obtain ⟨nm, o', s', a', ns', ⟨po, pn, pv, pk⟩, pp⟩ := p
        simp only [paramC, typeC, predC, strsA, List.cons_append, List.nil_append] at hp'
        have hw := wrap_add (i := j) (by omega)
        have hlm : (bs ++ (ps.take j).map (·.1)).length = bs.length + j := by simp; omega
        have hap := fun (x : Ent) (n : Nat) => ap_ownM (n := n) (s := nm) (c := .tight) (hO.old (x := x)) hlm (by omega)
        simp (maxSteps := 10^6) +contextual (disch := try exact dqd) only [evs0, simprocAttr, AV.int, AV.bool, AV.str, Tryz.results54, e7, e39, e40, e41, d1, hp', hw, hap]
        refine IH (_, _, _, j + 1) _ (by dsimp only; omega) ⟨rfl, hlt, ?_, rfl, rfl, rfl, rfl, rfl, rfl, rfl⟩
        rw [hstep, ← List.append_assoc]
        exact OwnL_put (by have := hO.lt; simp; omega)
      · have d1 : decide ((j : Int) < (ps.length : Int)) = false := by simpa using hlt
        have he : j = ps.length := by omega
        have hlm : (bs ++ (ps.take j).map (·.1)).length = bs.length + j := by simp; omega
        have hz2 := fz_ownS hO
        rw [hlm] at hz2
        simp (maxSteps := 10^6) +contextual (disch := try exact dqd) only [evs0, simprocAttr, AV.int, AV.bool, AV.str, Tryz.results54, e7, e39, e40, e41, d1, hz2, strsA]
        rw [← hR2, he, List.take_length]
    · have d6 : (o == 6) = false := by simpa using h6
      rw [if_neg h6, hl, List.append_nil]
      simp (maxSteps := 10^6) +contextual (disch := try exact dqd) only [ev0, simprocAttr, AV.int, AV.bool, AV.str, Tryz.results54, exprC, strsA, hw1, hw2, hm, hcp, d6, d7, hz]
end
end Go.Proofs.YtmkoiandfojgmaaGreat
namespace Go.Proofs.YtmkoiandfojgmaaGreat
open Go
def firstReg : Code → Nat
  | .seq a _ => firstReg a
  | .region id _ _ => id
  | .block _ c => firstReg c
  | .loop c => firstReg c
  | .scope c => firstReg c
  | _ => 0
def loopPos (n : Nat) : Code → List Nat → List Kont → Option (Code × List Kont)
  | .seq a b, lv, k => match loopPos n a lv (.seq b :: k) with | some r => some r | none => loopPos n b lv k
  | .block id c, lv, k => loopPos n c lv (.block id :: k)
  | .scope c, lv, k => loopPos n c lv k
  | .cond _ a b, lv, k => match loopPos n a lv k with | some r => some r | none => loopPos n b lv k
  | .loop c, lv, k => if (firstReg c == n) = true then some (.loop c, k) else match lv with
    | x :: lv => loopPos n c lv (.loop c x :: k)
    | [] => none
  | _, _, _ => none
def loopAt (fn : Func) (n : Nat) (lv : List Nat) : Option (Code × List Kont) := match fn.body with | some c => loopPos n c lv [] | none => none
section
variable [Globs] {P : Program} [Ext P] {fn : Func}
noncomputable def KA (P : Program) [Ext P] (fn : Func) (n : Nat) (lv : List Nat) (st : St) : Option (AV × St) := match loopAt fn n lv with | some (c, k) => RK P fn c st k | none => none
theorem KA_of {n : Nat} {lv : List Nat} {c : Code} {k : List Kont} (h : loopAt fn n lv = some (c, k)) {st : St} {fin : Option (AV × St) → Option Rs} {Φ : Rs → Prop} {t : Tag (c, k)} (hg : Gd fin Φ (KX P fn c st k t)) : Gd fin Φ (KA P fn n lv st) := by unfold KA; rw [h]; exact hg
theorem of_KA {n : Nat} {lv : List Nat} {c : Code} {k : List Kont} (h : loopAt fn n lv = some (c, k)) {st : St} {fin : Option (AV × St) → Option Rs} {Φ : Rs → Prop} {t : Tag (c, k)} (hg : Gd fin Φ (KA P fn n lv st)) : Gd fin Φ (KX P fn c st k t) := by unfold KA at hg; rw [h] at hg; exact hg
end
end Go.Proofs.YtmkoiandfojgmaaGreat
