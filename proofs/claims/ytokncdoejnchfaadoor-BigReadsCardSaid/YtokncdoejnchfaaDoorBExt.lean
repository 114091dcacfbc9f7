/-
  What is told from outside of the numbers' functions: the text of a number.
-/
import Derived.Test.YtokncdoejnchfaaDoorBGlob
namespace Go.Proofs.YtokncdoejnchfaaDoor
open Go

/-- digits of a list of cells -/
def intsOf : List (List AV) → Option (List Int)
  | [] => some []
  | [.prim (.int .i64 x)] :: r => (intsOf r).map (x :: ·)
  | _ => none
theorem intsOf_map : ∀ l : List Int, intsOf (l.map digC) = some l
  | [] => rfl
  | x :: l => by simp only [List.map_cons, digC, intsOf, intsOf_map l, Option.map_some]
def decF : Nat → Nat → List UInt8
  | 0, _ => []
  | f + 1, n => if n < 10 then [UInt8.ofNat (48 + n)] else decF f (n / 10) ++ [UInt8.ofNat (48 + n % 10)]
def fourF (n : Nat) : List UInt8 := [UInt8.ofNat (48 + n / 1000 % 10), UInt8.ofNat (48 + n / 100 % 10), UInt8.ofNat (48 + n / 10 % 10), UInt8.ofNat (48 + n % 10)]
/-- the text of digits, the greatest first -/
def topF : List Int → List UInt8
  | [] => [48]
  | d :: r => decF 20 d.toNat ++ (r.map fun x => fourF x.toNat).flatten
def textF (neg : Bool) (l : List Int) : ByteArray := if validF neg l = true then (if neg = true then ⟨(45 :: topF l.reverse).toArray⟩ else ⟨(topF l.reverse).toArray⟩) else ⟨#[48]⟩
instance : Ext Tryd.prog where
  on := fun f => f == 22
  mv := fun _ => false
  call := fun f args S tk n => if f == 22 then (match args with
    | [.agg [.prim (.bool neg), .frz es _]] => match intsOf es with
      | some l => if l.length ≤ 1000000 then some (.prim (.string (textF neg l)), S, tk, n) else none
      | none => none
    | _ => none) else none

theorem ext_mv (f : FuncId) : Ext.mv Tryd.prog f = false := rfl
theorem sh_trim : shF 40 = true ∧ keepFn Tryd.prog 40 1 = true ∧ Ext.on Tryd.prog 40 = false := ⟨rfl, by kernel_rfl, rfl⟩
theorem sh_signed : shF 39 = true ∧ keepFn Tryd.prog 39 2 = true ∧ Ext.on Tryd.prog 39 = false := ⟨rfl, by kernel_rfl, rfl⟩
section
variable (S : List Ent) (tk : List Nat) (k : Nat)
theorem big_Text (neg : Bool) (l : List Int) (c : Cap) (hlen : l.length ≤ 1000000) : cL Tryd.prog 22 [.agg [.bool neg, .frz (l.map digC) c]] S tk k = some (.str (textF neg l), S, tk, k) := by
  refine call_ext rfl ?_
  simp [Ext.call, intsOf_map, hlen]
end
end Go.Proofs.YtokncdoejnchfaaDoor
