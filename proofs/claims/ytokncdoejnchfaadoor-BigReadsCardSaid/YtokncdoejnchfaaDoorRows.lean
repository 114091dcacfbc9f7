/-
  NARROWER THAN 'FOR EVERY INPUT', by the rows' own cells (each row's printed sentence says how): BigProducts: laid · BigDivides: laid · BigTexts: laid · BigReads: laid · BigMakes: laid · BigQuotients: laid · BigSums: laid · BigRings: laid.
  DERIVED. THE GIVEN ROWS OF THIS SEAT. 8 by the template 'for every input the law returns true; each argument reads behind the call as it read before'; 0 by the template 'total and deterministic' (their statements: YtokncdoejnchfaaDoorTotals.lean).
  GIVEN WITH THE SEED: the statements are not yours to turn. If you find one false, say at which input.
  Laid BY PROGRAM, IN A SANDBOX (cutbox-rows.mjs): the forced cells as the released guide's own fill.sh prints them over the translation 40ad78535d02ba3a… (all of the seat's roots in one cut). By AI agents, Wed Nov 11 2026. No macro, syntax, notation, axiom, sorry.
-/
import Derived.Test.YtokncdoejnchfaaDoorChecked
import GoSem.Claim
import GoSem.ClaimJoined
import GoSem.ClaimMapViews
import Derived.JoinedTies
import Derived.KernelRfl
namespace Go.Proofs.YtokncdoejnchfaaDoor
/- THE CELL 'sum', in the pinned program and in every row, IS THE sha256 OF THE DUMP (.gsa) THAT YtokncdoejnchfaaDoorProg.lean LOADS. Nothing in Lean hashes anything: it is a label: what it is worth is what the hold of that sum in a sandbox is worth. -/
noncomputable def Tryd.pinned : Pinned := { name := "ytokncdoejnchfaadoor", sum := "40ad78535d02ba3ab7f06dba715546277d2116dd6d9fa0e4b921b2826a80e20f", checked := Tryd.checked }
namespace Rows
def none {H : Type} : Left H := { results := [], args := [] }

/- WHAT THE LISTED PACKAGE-LEVEL VARIABLES READ AS WHEN THE CALL BEGINS. Each datum BY PROGRAM (the guide's laid-datum.mjs) off the statement by which the dump's own 'gosem.cut.vars' lays the variable. In a bare row this is a premise. The card (YtokncdoejnchfaaDoorCards.lean) ties it to the program's text. -/
def laid_math_bits_deBruijn32tab {H : Type} : DataW H := .agg [.lit (.int .u8 0), .lit (.int .u8 1), .lit (.int .u8 28), .lit (.int .u8 2), .lit (.int .u8 29), .lit (.int .u8 14), .lit (.int .u8 24), .lit (.int .u8 3), .lit (.int .u8 30), .lit (.int .u8 22), .lit (.int .u8 20), .lit (.int .u8 15), .lit (.int .u8 25), .lit (.int .u8 17), .lit (.int .u8 4), .lit (.int .u8 8), .lit (.int .u8 31), .lit (.int .u8 27), .lit (.int .u8 13), .lit (.int .u8 23), .lit (.int .u8 21), .lit (.int .u8 19), .lit (.int .u8 16), .lit (.int .u8 7), .lit (.int .u8 26), .lit (.int .u8 12), .lit (.int .u8 18), .lit (.int .u8 6), .lit (.int .u8 11), .lit (.int .u8 5), .lit (.int .u8 10), .lit (.int .u8 9)]
def laid_math_bits_deBruijn64tab {H : Type} : DataW H := .agg [.lit (.int .u8 0), .lit (.int .u8 1), .lit (.int .u8 56), .lit (.int .u8 2), .lit (.int .u8 57), .lit (.int .u8 49), .lit (.int .u8 28), .lit (.int .u8 3), .lit (.int .u8 61), .lit (.int .u8 58), .lit (.int .u8 42), .lit (.int .u8 50), .lit (.int .u8 38), .lit (.int .u8 29), .lit (.int .u8 17), .lit (.int .u8 4), .lit (.int .u8 62), .lit (.int .u8 47), .lit (.int .u8 59), .lit (.int .u8 36), .lit (.int .u8 45), .lit (.int .u8 43), .lit (.int .u8 51), .lit (.int .u8 22), .lit (.int .u8 53), .lit (.int .u8 39), .lit (.int .u8 33), .lit (.int .u8 30), .lit (.int .u8 24), .lit (.int .u8 18), .lit (.int .u8 12), .lit (.int .u8 5), .lit (.int .u8 63), .lit (.int .u8 55), .lit (.int .u8 48), .lit (.int .u8 27), .lit (.int .u8 60), .lit (.int .u8 41), .lit (.int .u8 37), .lit (.int .u8 16), .lit (.int .u8 46), .lit (.int .u8 35), .lit (.int .u8 44), .lit (.int .u8 21), .lit (.int .u8 52), .lit (.int .u8 32), .lit (.int .u8 23), .lit (.int .u8 11), .lit (.int .u8 54), .lit (.int .u8 26), .lit (.int .u8 40), .lit (.int .u8 15), .lit (.int .u8 34), .lit (.int .u8 20), .lit (.int .u8 31), .lit (.int .u8 10), .lit (.int .u8 25), .lit (.int .u8 14), .lit (.int .u8 19), .lit (.int .u8 9), .lit (.int .u8 13), .lit (.int .u8 8), .lit (.int .u8 7), .lit (.int .u8 6)]
def laid_internal_strconv_uint64pow10 {H : Type} : DataW H := .agg [.lit (.int .u64 1), .lit (.int .u64 10), .lit (.int .u64 100), .lit (.int .u64 1000), .lit (.int .u64 10000), .lit (.int .u64 100000), .lit (.int .u64 1000000), .lit (.int .u64 10000000), .lit (.int .u64 100000000), .lit (.int .u64 1000000000), .lit (.int .u64 10000000000), .lit (.int .u64 100000000000), .lit (.int .u64 1000000000000), .lit (.int .u64 10000000000000), .lit (.int .u64 100000000000000), .lit (.int .u64 1000000000000000), .lit (.int .u64 10000000000000000), .lit (.int .u64 100000000000000000), .lit (.int .u64 1000000000000000000), .lit (.int .u64 10000000000000000000)]

/-- 'liquidchecklaw02.BigProducts': WHATEVER THE INPUT: true; the input reads as it did. -/
def bigProductsSpec : ChangeSpec := { name := "bigProducts", fn := fun _ => fun
  | [d1, d2] => { results := [.lit (.bool true)], args := [d1, d2] }
  | _ => none }
def bigProductsRow : OpenClaim := { program := "ytokncdoejnchfaadoor", sum := "40ad78535d02ba3ab7f06dba715546277d2116dd6d9fa0e4b921b2826a80e20f", func := "liquidcheck/liquidchecklaw02.BigProducts", spec := "bigProducts", inPlace := ["internal/abi.NoEscape"], named := ["internal/strconv.uint64pow10", "math/bits.deBruijn32tab", "math/bits.deBruijn64tab"], apart := false, laid := [("math/bits.deBruijn32tab", laid_math_bits_deBruijn32tab), ("math/bits.deBruijn64tab", laid_math_bits_deBruijn64tab), ("internal/strconv.uint64pow10", laid_internal_strconv_uint64pow10)] }
def BigProductsSaid : Prop := bigProductsRow.holds Tryd.pinned (OpenSpec.ofChange bigProductsSpec)

/-- ITS FALSE NEIGHBOUR: 'it returns false'. Refute it at one input. -/
def bigProductsWrong : ChangeSpec := { name := "bigProducts", fn := fun _ => fun
  | [d1, d2] => { results := [.lit (.bool false)], args := [d1, d2] }
  | _ => none }
def BigProductsWrongFalsely : Prop := bigProductsRow.holds Tryd.pinned (OpenSpec.ofChange bigProductsWrong)

/-- 'liquidchecklaw02.BigDivides': WHATEVER THE INPUT: true; the input reads as it did. -/
def bigDividesSpec : ChangeSpec := { name := "bigDivides", fn := fun _ => fun
  | [d1, d2] => { results := [.lit (.bool true)], args := [d1, d2] }
  | _ => none }
def bigDividesRow : OpenClaim := { program := "ytokncdoejnchfaadoor", sum := "40ad78535d02ba3ab7f06dba715546277d2116dd6d9fa0e4b921b2826a80e20f", func := "liquidcheck/liquidchecklaw02.BigDivides", spec := "bigDivides", inPlace := ["internal/abi.NoEscape"], named := ["internal/strconv.uint64pow10", "math/bits.deBruijn32tab", "math/bits.deBruijn64tab"], apart := false, laid := [("math/bits.deBruijn32tab", laid_math_bits_deBruijn32tab), ("math/bits.deBruijn64tab", laid_math_bits_deBruijn64tab), ("internal/strconv.uint64pow10", laid_internal_strconv_uint64pow10)] }
def BigDividesSaid : Prop := bigDividesRow.holds Tryd.pinned (OpenSpec.ofChange bigDividesSpec)

/-- ITS FALSE NEIGHBOUR: 'it returns false'. Refute it at one input. -/
def bigDividesWrong : ChangeSpec := { name := "bigDivides", fn := fun _ => fun
  | [d1, d2] => { results := [.lit (.bool false)], args := [d1, d2] }
  | _ => none }
def BigDividesWrongFalsely : Prop := bigDividesRow.holds Tryd.pinned (OpenSpec.ofChange bigDividesWrong)

/-- 'liquidchecklaw02.BigTexts': WHATEVER THE INPUT: true; the input reads as it did. -/
def bigTextsSpec : ChangeSpec := { name := "bigTexts", fn := fun _ => fun
  | [d1, d2] => { results := [.lit (.bool true)], args := [d1, d2] }
  | _ => none }
def bigTextsRow : OpenClaim := { program := "ytokncdoejnchfaadoor", sum := "40ad78535d02ba3ab7f06dba715546277d2116dd6d9fa0e4b921b2826a80e20f", func := "liquidcheck/liquidchecklaw02.BigTexts", spec := "bigTexts", inPlace := ["internal/abi.NoEscape"], named := ["internal/strconv.uint64pow10", "math/bits.deBruijn32tab", "math/bits.deBruijn64tab"], apart := false, laid := [("math/bits.deBruijn32tab", laid_math_bits_deBruijn32tab), ("math/bits.deBruijn64tab", laid_math_bits_deBruijn64tab), ("internal/strconv.uint64pow10", laid_internal_strconv_uint64pow10)] }
def BigTextsSaid : Prop := bigTextsRow.holds Tryd.pinned (OpenSpec.ofChange bigTextsSpec)

/-- ITS FALSE NEIGHBOUR: 'it returns false'. Refute it at one input. -/
def bigTextsWrong : ChangeSpec := { name := "bigTexts", fn := fun _ => fun
  | [d1, d2] => { results := [.lit (.bool false)], args := [d1, d2] }
  | _ => none }
def BigTextsWrongFalsely : Prop := bigTextsRow.holds Tryd.pinned (OpenSpec.ofChange bigTextsWrong)

/-- 'liquidchecklaw02.BigReads': WHATEVER THE INPUT: true; the input reads as it did. -/
def bigReadsSpec : ChangeSpec := { name := "bigReads", fn := fun _ => fun
  | [d1, d2] => { results := [.lit (.bool true)], args := [d1, d2] }
  | _ => none }
def bigReadsRow : OpenClaim := { program := "ytokncdoejnchfaadoor", sum := "40ad78535d02ba3ab7f06dba715546277d2116dd6d9fa0e4b921b2826a80e20f", func := "liquidcheck/liquidchecklaw02.BigReads", spec := "bigReads", inPlace := ["internal/abi.NoEscape"], named := ["internal/strconv.uint64pow10", "math/bits.deBruijn32tab", "math/bits.deBruijn64tab"], apart := false, laid := [("math/bits.deBruijn32tab", laid_math_bits_deBruijn32tab), ("math/bits.deBruijn64tab", laid_math_bits_deBruijn64tab), ("internal/strconv.uint64pow10", laid_internal_strconv_uint64pow10)] }
def BigReadsSaid : Prop := bigReadsRow.holds Tryd.pinned (OpenSpec.ofChange bigReadsSpec)

/-- ITS FALSE NEIGHBOUR: 'it returns false'. Refute it at one input. -/
def bigReadsWrong : ChangeSpec := { name := "bigReads", fn := fun _ => fun
  | [d1, d2] => { results := [.lit (.bool false)], args := [d1, d2] }
  | _ => none }
def BigReadsWrongFalsely : Prop := bigReadsRow.holds Tryd.pinned (OpenSpec.ofChange bigReadsWrong)

/-- 'liquidchecklaw02.BigMakes': WHATEVER THE INPUT: true; the input reads as it did. -/
def bigMakesSpec : ChangeSpec := { name := "bigMakes", fn := fun _ => fun
  | [d1, d2] => { results := [.lit (.bool true)], args := [d1, d2] }
  | _ => none }
def bigMakesRow : OpenClaim := { program := "ytokncdoejnchfaadoor", sum := "40ad78535d02ba3ab7f06dba715546277d2116dd6d9fa0e4b921b2826a80e20f", func := "liquidcheck/liquidchecklaw02.BigMakes", spec := "bigMakes", inPlace := ["internal/abi.NoEscape"], named := ["internal/strconv.uint64pow10", "math/bits.deBruijn32tab", "math/bits.deBruijn64tab"], apart := false, laid := [("math/bits.deBruijn32tab", laid_math_bits_deBruijn32tab), ("math/bits.deBruijn64tab", laid_math_bits_deBruijn64tab), ("internal/strconv.uint64pow10", laid_internal_strconv_uint64pow10)] }
def BigMakesSaid : Prop := bigMakesRow.holds Tryd.pinned (OpenSpec.ofChange bigMakesSpec)

/-- ITS FALSE NEIGHBOUR: 'it returns false'. Refute it at one input. -/
def bigMakesWrong : ChangeSpec := { name := "bigMakes", fn := fun _ => fun
  | [d1, d2] => { results := [.lit (.bool false)], args := [d1, d2] }
  | _ => none }
def BigMakesWrongFalsely : Prop := bigMakesRow.holds Tryd.pinned (OpenSpec.ofChange bigMakesWrong)

/-- 'liquidchecklaw02.BigQuotients': WHATEVER THE INPUT: true; the input reads as it did. -/
def bigQuotientsSpec : ChangeSpec := { name := "bigQuotients", fn := fun _ => fun
  | [d1, d2] => { results := [.lit (.bool true)], args := [d1, d2] }
  | _ => none }
def bigQuotientsRow : OpenClaim := { program := "ytokncdoejnchfaadoor", sum := "40ad78535d02ba3ab7f06dba715546277d2116dd6d9fa0e4b921b2826a80e20f", func := "liquidcheck/liquidchecklaw02.BigQuotients", spec := "bigQuotients", inPlace := ["internal/abi.NoEscape"], named := ["internal/strconv.uint64pow10", "math/bits.deBruijn32tab", "math/bits.deBruijn64tab"], apart := false, laid := [("math/bits.deBruijn32tab", laid_math_bits_deBruijn32tab), ("math/bits.deBruijn64tab", laid_math_bits_deBruijn64tab), ("internal/strconv.uint64pow10", laid_internal_strconv_uint64pow10)] }
def BigQuotientsSaid : Prop := bigQuotientsRow.holds Tryd.pinned (OpenSpec.ofChange bigQuotientsSpec)

/-- ITS FALSE NEIGHBOUR: 'it returns false'. Refute it at one input. -/
def bigQuotientsWrong : ChangeSpec := { name := "bigQuotients", fn := fun _ => fun
  | [d1, d2] => { results := [.lit (.bool false)], args := [d1, d2] }
  | _ => none }
def BigQuotientsWrongFalsely : Prop := bigQuotientsRow.holds Tryd.pinned (OpenSpec.ofChange bigQuotientsWrong)

/-- 'liquidchecklaw02.BigSums': WHATEVER THE INPUT: true; the input reads as it did. -/
def bigSumsSpec : ChangeSpec := { name := "bigSums", fn := fun _ => fun
  | [d1, d2] => { results := [.lit (.bool true)], args := [d1, d2] }
  | _ => none }
def bigSumsRow : OpenClaim := { program := "ytokncdoejnchfaadoor", sum := "40ad78535d02ba3ab7f06dba715546277d2116dd6d9fa0e4b921b2826a80e20f", func := "liquidcheck/liquidchecklaw02.BigSums", spec := "bigSums", inPlace := ["internal/abi.NoEscape"], named := ["internal/strconv.uint64pow10", "math/bits.deBruijn32tab", "math/bits.deBruijn64tab"], apart := false, laid := [("math/bits.deBruijn32tab", laid_math_bits_deBruijn32tab), ("math/bits.deBruijn64tab", laid_math_bits_deBruijn64tab), ("internal/strconv.uint64pow10", laid_internal_strconv_uint64pow10)] }
def BigSumsSaid : Prop := bigSumsRow.holds Tryd.pinned (OpenSpec.ofChange bigSumsSpec)

/-- ITS FALSE NEIGHBOUR: 'it returns false'. Refute it at one input. -/
def bigSumsWrong : ChangeSpec := { name := "bigSums", fn := fun _ => fun
  | [d1, d2] => { results := [.lit (.bool false)], args := [d1, d2] }
  | _ => none }
def BigSumsWrongFalsely : Prop := bigSumsRow.holds Tryd.pinned (OpenSpec.ofChange bigSumsWrong)

/-- 'liquidchecklaw02.BigRings': WHATEVER THE INPUT: true; the input reads as it did. -/
def bigRingsSpec : ChangeSpec := { name := "bigRings", fn := fun _ => fun
  | [d1, d2, d3] => { results := [.lit (.bool true)], args := [d1, d2, d3] }
  | _ => none }
def bigRingsRow : OpenClaim := { program := "ytokncdoejnchfaadoor", sum := "40ad78535d02ba3ab7f06dba715546277d2116dd6d9fa0e4b921b2826a80e20f", func := "liquidcheck/liquidchecklaw02.BigRings", spec := "bigRings", inPlace := ["internal/abi.NoEscape"], named := ["internal/strconv.uint64pow10", "math/bits.deBruijn32tab", "math/bits.deBruijn64tab"], apart := false, laid := [("math/bits.deBruijn32tab", laid_math_bits_deBruijn32tab), ("math/bits.deBruijn64tab", laid_math_bits_deBruijn64tab), ("internal/strconv.uint64pow10", laid_internal_strconv_uint64pow10)] }
def BigRingsSaid : Prop := bigRingsRow.holds Tryd.pinned (OpenSpec.ofChange bigRingsSpec)

/-- ITS FALSE NEIGHBOUR: 'it returns false'. Refute it at one input. -/
def bigRingsWrong : ChangeSpec := { name := "bigRings", fn := fun _ => fun
  | [d1, d2, d3] => { results := [.lit (.bool false)], args := [d1, d2, d3] }
  | _ => none }
def BigRingsWrongFalsely : Prop := bigRingsRow.holds Tryd.pinned (OpenSpec.ofChange bigRingsWrong)

/- THE SECOND FORM. 'bulk': how many values and letters a reading holds, each counted each time it is reached (what is shared counts as often as it is met; a slice's spare places count too). A statement '..UptoSaid' is the law's where the arguments, and the package variables that the reading takes, are together of bulk at most 1048576: NARROWER than '..Said'. Prove '..Said' where nothing that the law and all that it calls make is longer than what came in: it says more and counts as full. Else prove '..UptoSaid'. A law counts once. -/
mutual
def uptoBulk {H : Type} : DataW H → Nat
  | .lit (.string bytes) => bytes.length + 1
  | .lit _ => 1
  | .nil => 1
  | .ptr d => uptoBulk d + 1
  | .slice elems spare => uptoBulkAll elems + uptoBulkAll spare + 1
  | .agg parts => uptoBulkAll parts + 1
  | .iface _ d => uptoBulk d + 1
  | .map entries => uptoBulkEntries entries + 1
  | .held _ => 1
def uptoBulkAll {H : Type} : List (DataW H) → Nat
  | [] => 0
  | d :: r => uptoBulk d + uptoBulkAll r
def uptoBulkEntries {H : Type} : List (Lit × DataW H) → Nat
  | [] => 0
  | x :: r => uptoBulkEntry x + uptoBulkEntries r
def uptoBulkEntry {H : Type} : Lit × DataW H → Nat
  | (.string bytes, d) => bytes.length + uptoBulk d + 1
  | (_, d) => uptoBulk d + 1
 end
def uptoSmall : (H : Type) → List (DataW H) → Bool := fun _ ds => decide (uptoBulkAll ds ≤ 1048576)
def OpenSpec.upto (s : _root_.Go.ChangeSpec) : _root_.Go.OpenSpec := { _root_.Go.OpenSpec.ofChange s with cond := some uptoSmall }

/-- 'liquidchecklaw02.BigProducts', WHERE WHAT IT READS IS OF BULK AT MOST 1048576: true; the input reads as it did. -/
def bigProductsUptoRow : OpenClaim := { program := "ytokncdoejnchfaadoor", sum := "40ad78535d02ba3ab7f06dba715546277d2116dd6d9fa0e4b921b2826a80e20f", func := "liquidcheck/liquidchecklaw02.BigProducts", spec := "bigProducts", inPlace := ["internal/abi.NoEscape"], named := ["internal/strconv.uint64pow10", "math/bits.deBruijn32tab", "math/bits.deBruijn64tab"], apart := false, laid := [("math/bits.deBruijn32tab", laid_math_bits_deBruijn32tab), ("math/bits.deBruijn64tab", laid_math_bits_deBruijn64tab), ("internal/strconv.uint64pow10", laid_internal_strconv_uint64pow10)], narrowed := true }
def BigProductsUptoSaid : Prop := bigProductsUptoRow.holds Tryd.pinned (OpenSpec.upto bigProductsSpec)

/-- 'liquidchecklaw02.BigDivides', WHERE WHAT IT READS IS OF BULK AT MOST 1048576: true; the input reads as it did. -/
def bigDividesUptoRow : OpenClaim := { program := "ytokncdoejnchfaadoor", sum := "40ad78535d02ba3ab7f06dba715546277d2116dd6d9fa0e4b921b2826a80e20f", func := "liquidcheck/liquidchecklaw02.BigDivides", spec := "bigDivides", inPlace := ["internal/abi.NoEscape"], named := ["internal/strconv.uint64pow10", "math/bits.deBruijn32tab", "math/bits.deBruijn64tab"], apart := false, laid := [("math/bits.deBruijn32tab", laid_math_bits_deBruijn32tab), ("math/bits.deBruijn64tab", laid_math_bits_deBruijn64tab), ("internal/strconv.uint64pow10", laid_internal_strconv_uint64pow10)], narrowed := true }
def BigDividesUptoSaid : Prop := bigDividesUptoRow.holds Tryd.pinned (OpenSpec.upto bigDividesSpec)

/-- 'liquidchecklaw02.BigTexts', WHERE WHAT IT READS IS OF BULK AT MOST 1048576: true; the input reads as it did. -/
def bigTextsUptoRow : OpenClaim := { program := "ytokncdoejnchfaadoor", sum := "40ad78535d02ba3ab7f06dba715546277d2116dd6d9fa0e4b921b2826a80e20f", func := "liquidcheck/liquidchecklaw02.BigTexts", spec := "bigTexts", inPlace := ["internal/abi.NoEscape"], named := ["internal/strconv.uint64pow10", "math/bits.deBruijn32tab", "math/bits.deBruijn64tab"], apart := false, laid := [("math/bits.deBruijn32tab", laid_math_bits_deBruijn32tab), ("math/bits.deBruijn64tab", laid_math_bits_deBruijn64tab), ("internal/strconv.uint64pow10", laid_internal_strconv_uint64pow10)], narrowed := true }
def BigTextsUptoSaid : Prop := bigTextsUptoRow.holds Tryd.pinned (OpenSpec.upto bigTextsSpec)

/-- 'liquidchecklaw02.BigReads', WHERE WHAT IT READS IS OF BULK AT MOST 1048576: true; the input reads as it did. -/
def bigReadsUptoRow : OpenClaim := { program := "ytokncdoejnchfaadoor", sum := "40ad78535d02ba3ab7f06dba715546277d2116dd6d9fa0e4b921b2826a80e20f", func := "liquidcheck/liquidchecklaw02.BigReads", spec := "bigReads", inPlace := ["internal/abi.NoEscape"], named := ["internal/strconv.uint64pow10", "math/bits.deBruijn32tab", "math/bits.deBruijn64tab"], apart := false, laid := [("math/bits.deBruijn32tab", laid_math_bits_deBruijn32tab), ("math/bits.deBruijn64tab", laid_math_bits_deBruijn64tab), ("internal/strconv.uint64pow10", laid_internal_strconv_uint64pow10)], narrowed := true }
def BigReadsUptoSaid : Prop := bigReadsUptoRow.holds Tryd.pinned (OpenSpec.upto bigReadsSpec)

/-- 'liquidchecklaw02.BigMakes', WHERE WHAT IT READS IS OF BULK AT MOST 1048576: true; the input reads as it did. -/
def bigMakesUptoRow : OpenClaim := { program := "ytokncdoejnchfaadoor", sum := "40ad78535d02ba3ab7f06dba715546277d2116dd6d9fa0e4b921b2826a80e20f", func := "liquidcheck/liquidchecklaw02.BigMakes", spec := "bigMakes", inPlace := ["internal/abi.NoEscape"], named := ["internal/strconv.uint64pow10", "math/bits.deBruijn32tab", "math/bits.deBruijn64tab"], apart := false, laid := [("math/bits.deBruijn32tab", laid_math_bits_deBruijn32tab), ("math/bits.deBruijn64tab", laid_math_bits_deBruijn64tab), ("internal/strconv.uint64pow10", laid_internal_strconv_uint64pow10)], narrowed := true }
def BigMakesUptoSaid : Prop := bigMakesUptoRow.holds Tryd.pinned (OpenSpec.upto bigMakesSpec)

/-- 'liquidchecklaw02.BigQuotients', WHERE WHAT IT READS IS OF BULK AT MOST 1048576: true; the input reads as it did. -/
def bigQuotientsUptoRow : OpenClaim := { program := "ytokncdoejnchfaadoor", sum := "40ad78535d02ba3ab7f06dba715546277d2116dd6d9fa0e4b921b2826a80e20f", func := "liquidcheck/liquidchecklaw02.BigQuotients", spec := "bigQuotients", inPlace := ["internal/abi.NoEscape"], named := ["internal/strconv.uint64pow10", "math/bits.deBruijn32tab", "math/bits.deBruijn64tab"], apart := false, laid := [("math/bits.deBruijn32tab", laid_math_bits_deBruijn32tab), ("math/bits.deBruijn64tab", laid_math_bits_deBruijn64tab), ("internal/strconv.uint64pow10", laid_internal_strconv_uint64pow10)], narrowed := true }
def BigQuotientsUptoSaid : Prop := bigQuotientsUptoRow.holds Tryd.pinned (OpenSpec.upto bigQuotientsSpec)

/-- 'liquidchecklaw02.BigSums', WHERE WHAT IT READS IS OF BULK AT MOST 1048576: true; the input reads as it did. -/
def bigSumsUptoRow : OpenClaim := { program := "ytokncdoejnchfaadoor", sum := "40ad78535d02ba3ab7f06dba715546277d2116dd6d9fa0e4b921b2826a80e20f", func := "liquidcheck/liquidchecklaw02.BigSums", spec := "bigSums", inPlace := ["internal/abi.NoEscape"], named := ["internal/strconv.uint64pow10", "math/bits.deBruijn32tab", "math/bits.deBruijn64tab"], apart := false, laid := [("math/bits.deBruijn32tab", laid_math_bits_deBruijn32tab), ("math/bits.deBruijn64tab", laid_math_bits_deBruijn64tab), ("internal/strconv.uint64pow10", laid_internal_strconv_uint64pow10)], narrowed := true }
def BigSumsUptoSaid : Prop := bigSumsUptoRow.holds Tryd.pinned (OpenSpec.upto bigSumsSpec)

/-- 'liquidchecklaw02.BigRings', WHERE WHAT IT READS IS OF BULK AT MOST 1048576: true; the input reads as it did. -/
def bigRingsUptoRow : OpenClaim := { program := "ytokncdoejnchfaadoor", sum := "40ad78535d02ba3ab7f06dba715546277d2116dd6d9fa0e4b921b2826a80e20f", func := "liquidcheck/liquidchecklaw02.BigRings", spec := "bigRings", inPlace := ["internal/abi.NoEscape"], named := ["internal/strconv.uint64pow10", "math/bits.deBruijn32tab", "math/bits.deBruijn64tab"], apart := false, laid := [("math/bits.deBruijn32tab", laid_math_bits_deBruijn32tab), ("math/bits.deBruijn64tab", laid_math_bits_deBruijn64tab), ("internal/strconv.uint64pow10", laid_internal_strconv_uint64pow10)], narrowed := true }
def BigRingsUptoSaid : Prop := bigRingsUptoRow.holds Tryd.pinned (OpenSpec.upto bigRingsSpec)

end Rows
end Go.Proofs.YtokncdoejnchfaaDoor
