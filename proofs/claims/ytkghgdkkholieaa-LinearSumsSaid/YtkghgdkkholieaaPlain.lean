/-
  Plain functions and laws on integers: no program in sight.
-/
namespace Go.Proofs.Ytkghgdkkholieaa

/-- in bounds -/
def inB (n : Int) : Bool := decide (-1000000000000 ≤ n ∧ n ≤ 1000000000000)
theorem inB_true {n : Int} : inB n = true ↔ -1000000000000 ≤ n ∧ n ≤ 1000000000000 := by simp [inB]
theorem inB_false {n : Int} : inB n = false ↔ ¬ (-1000000000000 ≤ n ∧ n ≤ 1000000000000) := by simp [inB]

/-- the value of a checked operation -/
def chk (ok : Bool) (n : Int) : Int × Bool := if ok && inB n then (n, true) else (0, false)
def addS (a b : Int) : Int × Bool := chk (inB a && inB b) (a + b)
def subS (a b : Int) : Int × Bool := chk (inB a && inB b) (a - b)
def mulS (a b : Int) : Int × Bool := chk (inB a && inB b) (a * b)
/-- the quotient rounded down, of a number by one that is not 0 -/
def divS (a b : Int) : Int × Bool := if inB a && inB b && !(b == 0) then (a.fdiv b, true) else (0, false)
def absS (n : Int) : Int := if n = -9223372036854775808 then 1000000000000 else if 0 ≤ n then n else -n
def gcdS (a b : Int) : Int := (Int.gcd (absS a) (absS b) : Int)

theorem absS_in {n : Int} (h : inB n = true) : absS n = n.natAbs := by
  rw [inB_true] at h; unfold absS; split
  · omega
  · split <;> omega

theorem mul_test (a b : Int) (h : a ≠ 0) :
    (decide (1000000000000 / (a.natAbs : Int) < (b.natAbs : Int)) = false ∧ -1000000000000 ≤ a * b ∧ a * b ≤ 1000000000000 ∧ inB (a * b) = true) ∨
    (decide (1000000000000 / (a.natAbs : Int) < (b.natAbs : Int)) = true ∧ inB (a * b) = false) := by
  have hp : 0 < (a.natAbs : Int) := by omega
  have hab : ((a * b).natAbs : Int) = (b.natAbs : Int) * a.natAbs := by rw [Int.natAbs_mul]; push_cast; rw [Int.mul_comm]
  by_cases hc : 1000000000000 / (a.natAbs : Int) < (b.natAbs : Int)
  · right
    refine ⟨by simpa using hc, ?_⟩
    rw [Int.ediv_lt_iff_lt_mul hp] at hc
    rw [inB_false]
    omega
  · left
    have hd := hc
    rw [Int.ediv_lt_iff_lt_mul hp] at hc
    rw [inB_true]
    refine ⟨by simpa using hd, ?_⟩
    omega

/-- at most 40 coefficients with names of at most 500 bytes -/
def smallS (cs : List (ByteArray × Int)) : Bool := decide (cs.length ≤ 40 ∧ ∀ c ∈ cs, ¬ 500 < c.1.size)
theorem smallS_long {cs : List (ByteArray × Int)} {len : Nat} (hl : cs.length = len) (h : 40 < len) : false = smallS cs := by
  symm; unfold smallS; rw [decide_eq_false_iff_not]; omega
theorem smallS_name {cs : List (ByteArray × Int)} {n : Nat} {c : ByteArray × Int} (hn : cs[n]? = some c) (h : 500 < c.1.size) : false = smallS cs := by
  symm; unfold smallS; rw [decide_eq_false_iff_not]; intro hh
  exact hh.2 c (List.mem_of_getElem? hn) h
theorem smallS_true {cs : List (ByteArray × Int)} {len n : Nat} (hl : cs.length = len) (hn : len ≤ n) (h4 : n ≤ 40) (h : ∀ j, j < n → ∀ c, cs[j]? = some c → ¬ 500 < c.1.size) : true = smallS cs := by
  symm; unfold smallS; rw [decide_eq_true_iff]
  refine ⟨by omega, fun c hc => ?_⟩
  obtain ⟨j, hj⟩ := List.getElem?_of_mem hc
  exact h j (by have := (List.getElem?_eq_some_iff.1 hj).1; omega) c hj
theorem smallS_iff {cs : List (ByteArray × Int)} : smallS cs = true ↔ cs.length ≤ 40 ∧ ∀ c ∈ cs, ¬ 500 < c.1.size := by simp [smallS]

def sameS (x : List (ByteArray × Int)) (k : Int) (y : List (ByteArray × Int)) (l : Int) : Bool := decide (x = y ∧ k = l)
theorem sameS_len {x y : List (ByteArray × Int)} {k l : Int} (h : x.length ≠ y.length) : false = sameS x k y l := by
  symm; unfold sameS; rw [decide_eq_false_iff_not]; rintro ⟨rfl, _⟩; exact h rfl
theorem sameS_const {x y : List (ByteArray × Int)} {k l : Int} (h : k ≠ l) : false = sameS x k y l := by
  symm; unfold sameS; rw [decide_eq_false_iff_not]; rintro ⟨_, e⟩; exact h e
theorem sameS_at {x y : List (ByteArray × Int)} {k l : Int} {n : Nat} {c d : ByteArray × Int} (h : x[n]? = some c) (h' : y[n]? = some d) (hne : c ≠ d) : false = sameS x k y l := by
  symm; unfold sameS; rw [decide_eq_false_iff_not]; rintro ⟨rfl, _⟩; rw [h] at h'; exact hne (by simpa using h')
theorem sameS_true {x y : List (ByteArray × Int)} {k : Int} {len n : Nat} (hx : x.length = len) (hy : y.length = len) (hn : len ≤ n) (h : ∀ j, j < n → x[j]? = y[j]?) : true = sameS x k y k := by
  symm; unfold sameS; rw [decide_eq_true_iff]; refine ⟨List.ext_getElem? fun j => ?_, rfl⟩
  rcases Nat.lt_or_ge j n with hj | hj
  · exact h j hj
  · rw [List.getElem?_eq_none (by omega), List.getElem?_eq_none (by omega)]
theorem sameS_refl (x : List (ByteArray × Int)) (k : Int) : sameS x k x k = true := by simp [sameS]

/-- the sum of two lists of coefficients by increasing names; less compares names -/
def addF (less : ByteArray → ByteArray → Bool) : Nat → List (ByteArray × Int) → List (ByteArray × Int) → List (ByteArray × Int)
  | 0, _, _ => []
  | _ + 1, [], [] => []
  | n + 1, x :: xs, [] => x :: addF less n xs []
  | n + 1, [], y :: ys => y :: addF less n [] ys
  | n + 1, x :: xs, y :: ys =>
    if less x.1 y.1 then x :: addF less n xs (y :: ys)
    else if less y.1 x.1 then y :: addF less n (x :: xs) ys
    else if x.2 + y.2 = 0 then addF less n xs ys else (x.1, x.2 + y.2) :: addF less n xs ys
theorem addF_more (less : ByteArray → ByteArray → Bool) : ∀ (n m : Nat) (xs ys : List (ByteArray × Int)), xs.length + ys.length ≤ n → xs.length + ys.length ≤ m → addF less n xs ys = addF less m xs ys
  | 0, m, xs, ys, h, _ => by
    have h1 : xs = [] := List.eq_nil_of_length_eq_zero (by omega)
    have h2 : ys = [] := List.eq_nil_of_length_eq_zero (by omega)
    subst h1 h2
    cases m <;> rfl
  | n + 1, 0, xs, ys, _, h => by
    have h1 : xs = [] := List.eq_nil_of_length_eq_zero (by omega)
    have h2 : ys = [] := List.eq_nil_of_length_eq_zero (by omega)
    subst h1 h2
    rfl
  | n + 1, m + 1, [], [], _, _ => rfl
  | n + 1, m + 1, x :: xs, [], h, h' => by simp only [addF]; rw [addF_more less n m xs [] (by simp at h ⊢; omega) (by simp at h' ⊢; omega)]
  | n + 1, m + 1, [], y :: ys, h, h' => by simp only [addF]; rw [addF_more less n m [] ys (by simp at h ⊢; omega) (by simp at h' ⊢; omega)]
  | n + 1, m + 1, x :: xs, y :: ys, h, h' => by
    simp only [addF]
    rw [addF_more less n m xs (y :: ys) (by simp at h ⊢; omega) (by simp at h' ⊢; omega), addF_more less n m (x :: xs) ys (by simp at h ⊢; omega) (by simp at h' ⊢; omega), addF_more less n m xs ys (by simp at h ⊢; omega) (by simp at h' ⊢; omega)]
def addC (less : ByteArray → ByteArray → Bool) (xs ys : List (ByteArray × Int)) : List (ByteArray × Int) := addF less (xs.length + ys.length) xs ys
section
variable {less : ByteArray → ByteArray → Bool} {x y : ByteArray × Int} {xs ys : List (ByteArray × Int)}
theorem addC_nil : addC less [] [] = [] := rfl
theorem addC_left0 : addC less (x :: xs) [] = x :: addC less xs [] := rfl
theorem addC_right0 : addC less [] (y :: ys) = y :: addC less [] ys := by
  unfold addC
  rw [addF_more less (([] : List (ByteArray × Int)).length + (y :: ys).length) (ys.length + 1) _ _ (by simp) (by simp)]
  simp only [addF]
  rw [addF_more less ys.length (([] : List (ByteArray × Int)).length + ys.length) _ _ (by simp) (by simp)]
theorem addC_left (h : less x.1 y.1 = true) : addC less (x :: xs) (y :: ys) = x :: addC less xs (y :: ys) := by
  unfold addC
  rw [addF_more less ((x :: xs).length + (y :: ys).length) (xs.length + (y :: ys).length + 1) _ _ (by simp) (by simp only [List.length_cons]; omega)]
  simp only [addF, h, if_true]
theorem addC_right (h : less x.1 y.1 = false) (h' : less y.1 x.1 = true) : addC less (x :: xs) (y :: ys) = y :: addC less (x :: xs) ys := by
  unfold addC
  rw [addF_more less ((x :: xs).length + (y :: ys).length) ((x :: xs).length + ys.length + 1) _ _ (by simp) (by simp only [List.length_cons]; omega)]
  simp [addF, h, h']
theorem addC_both (h : less x.1 y.1 = false) (h' : less y.1 x.1 = false) : addC less (x :: xs) (y :: ys) = if x.2 + y.2 = 0 then addC less xs ys else (x.1, x.2 + y.2) :: addC less xs ys := by
  have e := addF_more less (xs.length + ys.length + 1) (xs.length + ys.length) xs ys (by omega) (by omega)
  unfold addC
  rw [addF_more less ((x :: xs).length + (y :: ys).length) (xs.length + ys.length + 1 + 1) _ _ (by simp) (by simp only [List.length_cons]; omega)]
  simp only [addF, h, h', e]
  simp
end
theorem drop_cons {α : Type} {l : List α} {n : Nat} {x : α} (h : l[n]? = some x) : l.drop n = x :: l.drop (n + 1) := by
  obtain ⟨hlt, hx⟩ := List.getElem?_eq_some_iff.1 h
  rw [List.drop_eq_getElem_cons hlt, hx]
theorem drop_nil {α : Type} {l : List α} {n : Nat} (h : l.length ≤ n) : l.drop n = [] := List.drop_eq_nil_of_le h

end Go.Proofs.Ytkghgdkkholieaa
