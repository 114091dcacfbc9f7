/-
  The walks of linear.Check and of its reference: both return the error that checkS gives.
-/
import Derived.Test.YtkghgdkkholieaaNum
import Derived.BigQuiet
import Derived.Deep.QuietTactic
namespace Go.Proofs.Ytkghgdkkholieaa
open Go.RowKit

/-- all of these blocks are there -/
def Under (L : List Nat) (n : Nat) : Prop := ∀ x ∈ L, x < n
theorem Under.mono {L : List Nat} {n m : Nat} (h : Under L n) (hm : n ≤ m) : Under L m := fun x hx => Nat.lt_of_lt_of_le (h x hx) hm
theorem Under.cons {L : List Nat} {n x : Nat} (h : Under L n) (hx : x < n) : Under (x :: L) n := fun y hy => by
  rcases List.mem_cons.1 hy with e | e
  · rw [e]; exact hx
  · exact h y e
theorem Under.not {L : List Nat} {n x : Nat} (h : Under L n) (hx : n ≤ x) : x ∉ L := fun hh => by have := h x hh; omega
theorem under_nil (n : Nat) : Under [] n := fun x hx => by simp at hx

/-- a slice's header reads as a list of coefficients, in a block that is none of L -/
structure IsCoefs (L : List Nat) (w : World) (a : Option Addr) (len cap : Nat) (cs : List (ByteArray × Int)) : Prop where
  size : cs.length = len
  room : len ≤ cap
  void : a = none → cap = 0
  cells : ∀ i (h : i < cs.length), ∃ b off, a = some ⟨b, off, .none⟩ ∧ (b < w.heap.size ∧ b ∉ L) ∧ w.cell? ⟨b, off + i * 2, .none⟩ = some (.string cs[i].1) ∧ w.cell? ⟨b, off + i * 2 + 1, .none⟩ = some (.int .i64 cs[i].2)

theorem IsCoefs.below {L : List Nat} {w w' : World} {a : Option Addr} {len cap : Nat} {cs : List (ByteArray × Int)} (h : IsCoefs L w a len cap cs) (hb : Below w.heap.size w w') : IsCoefs L w' a len cap cs := by
  refine ⟨h.size, h.room, h.void, fun i hi => ?_⟩
  obtain ⟨b, off, ha, ⟨h1, h0⟩, h2, h3⟩ := h.cells i hi
  exact ⟨b, off, ha, ⟨Nat.lt_of_lt_of_le h1 hb.size, h0⟩, by rw [hb.cell (by simpa using h1)]; exact h2, by rw [hb.cell (by simpa using h1)]; exact h3⟩
theorem IsCoefs.cons {L : List Nat} {w : World} {a : Option Addr} {len cap : Nat} {cs : List (ByteArray × Int)} (h : IsCoefs L w a len cap cs) {x : Nat} (hx : w.heap.size ≤ x) : IsCoefs (x :: L) w a len cap cs := by
  refine ⟨h.size, h.room, h.void, fun i hi => ?_⟩
  obtain ⟨b, off, ha, ⟨h1, h0⟩, h2⟩ := h.cells i hi
  exact ⟨b, off, ha, ⟨h1, fun hh => by rcases List.mem_cons.1 hh with e | e; omega; exact h0 e⟩, h2⟩
theorem IsCoefs.sub {L L' : List Nat} {w : World} {a : Option Addr} {len cap : Nat} {cs : List (ByteArray × Int)} (h : IsCoefs L w a len cap cs) (hs : ∀ x ∈ L', x ∈ L) : IsCoefs L' w a len cap cs := by
  refine ⟨h.size, h.room, h.void, fun i hi => ?_⟩
  obtain ⟨b, off, ha, ⟨h1, h0⟩, h2⟩ := h.cells i hi
  exact ⟨b, off, ha, ⟨h1, fun hh => h0 (hs _ hh)⟩, h2⟩
theorem IsCoefs.tail {L : List Nat} {x : Nat} {w : World} {a : Option Addr} {len cap : Nat} {cs : List (ByteArray × Int)} (h : IsCoefs (x :: L) w a len cap cs) : IsCoefs L w a len cap cs := h.sub fun _ hx => List.mem_cons_of_mem _ hx
theorem IsCoefs.set {L : List Nat} {w : World} {a : Option Addr} {len cap : Nat} {cs : List (ByteArray × Int)} (h : IsCoefs L w a len cap cs) {p : Addr} (hp : p.block ∈ L) (u : Value) : IsCoefs L (w.setCell p u) a len cap cs := by
  refine ⟨h.size, h.room, h.void, fun i hi => ?_⟩
  obtain ⟨b, off, ha, ⟨h1, h0⟩, h2, h3⟩ := h.cells i hi
  have hne : ∀ o, (w.setCell p u).cell? ⟨b, o, .none⟩ = w.cell? ⟨b, o, .none⟩ := fun o => World.cell?_of_block (w := w) (Below.heap_setCell w p u b (fun e => h0 (e ▸ hp)))
  exact ⟨b, off, ha, ⟨by simpa [World.setCell] using h1, h0⟩, by rw [hne]; exact h2, by rw [hne]; exact h3⟩
theorem coefs_nil (L : List Nat) (w : World) : IsCoefs L w none 0 0 [] := ⟨rfl, Nat.le_refl _, fun _ => rfl, fun i h => by simp at h⟩

/-- a name that is not right -/
def badName (s : ByteArray) : Bool := s.toList.isEmpty || decide (400 < (s.size : Int))
/-- a number that is not right -/
def badNum (m : Int) : Bool := (m == 0) || !inB m
/-- a name that is not greater than another one -/
def notGt (s p : ByteArray) : Bool := Op.bytesLess s.toList p.toList || s.toList == p.toList
/-- the error at an index, 0 if there is none -/
def errAt (cs : List (ByteArray × Int)) (i : Nat) : Int :=
  match cs[i]? with
  | none => 0
  | some c => if badName c.1 then 3 else if badNum c.2 then 2 else
    match i with
    | 0 => 0
    | j + 1 => match cs[j]? with
      | none => 0
      | some p => if notGt c.1 p.1 then 9 else 0
def firstErr (cs : List (ByteArray × Int)) : Int := ((List.range cs.length).findSome? fun i => if errAt cs i = 0 then none else some (errAt cs i)).getD 0
def checkS (cs : List (ByteArray × Int)) (k : Int) : Int := if 24 < cs.length then 7 else if firstErr cs = 0 then (if inB k then 0 else 2) else firstErr cs

theorem firstErr_none {cs : List (ByteArray × Int)} (h : ∀ j, j < cs.length → errAt cs j = 0) : firstErr cs = 0 := by
  unfold firstErr
  rw [List.findSome?_eq_none_iff.2]
  · rfl
  · intro i hi
    rw [if_pos (h i (by simpa using hi))]
theorem range_split (n k : Nat) (h : k < n) : List.range n = List.range k ++ k :: (List.range (n - k - 1)).map (k + 1 + ·) := by
  have e : n = k + (1 + (n - k - 1)) := by omega
  rw [e, List.range_add, List.range_add]
  simp [Nat.add_assoc]
theorem firstErr_some {cs : List (ByteArray × Int)} {k : Nat} {e : Int} (h : ∀ j, j < k → errAt cs j = 0) (hk : k < cs.length) (he : errAt cs k = e) (h0 : e ≠ 0) : firstErr cs = e := by
  unfold firstErr
  rw [range_split _ k hk, List.findSome?_append, List.findSome?_eq_none_iff.2 (fun i hi => by rw [if_pos (h i (by simpa using hi))])]
  simp [he, h0]

theorem errAt_bad1 {cs : List (ByteArray × Int)} {n : Nat} {s : ByteArray} {m : Int} (hn : cs[n]? = some (s, m)) (h : badName s = true) : errAt cs n = 3 := by
  unfold errAt; rw [hn]; simp [h]
theorem errAt_bad2 {cs : List (ByteArray × Int)} {n : Nat} {s : ByteArray} {m : Int} (hn : cs[n]? = some (s, m)) (h : badName s = false) (h2 : badNum m = true) : errAt cs n = 2 := by
  unfold errAt; rw [hn]; simp [h, h2]
theorem errAt_zero {cs : List (ByteArray × Int)} {s : ByteArray} {m : Int} (hn : cs[0]? = some (s, m)) (h : badName s = false) (h2 : badNum m = false) : errAt cs 0 = 0 := by
  unfold errAt; rw [hn]; simp [h, h2]
theorem errAt_first {cs : List (ByteArray × Int)} {n : Nat} {s : ByteArray} {m : Int} (h0 : ¬ 0 < n) (hn : cs[n]? = some (s, m)) (h : badName s = false) (h2 : badNum m = false) : errAt cs n = 0 := by
  obtain rfl : n = 0 := by omega
  exact errAt_zero hn h h2
theorem upto_succ {P : Nat → Prop} {n : Nat} (h : ∀ j, j < n → P j) (hn : P n) : ∀ j, j < n + 1 → P j := by
  intro j hj
  rcases Nat.lt_succ_iff_lt_or_eq.1 hj with h1 | h1
  · exact h j h1
  · rw [h1]; exact hn
theorem errAt_prev {cs : List (ByteArray × Int)} {n : Nat} {s s' : ByteArray} {m m' : Int} (hn : cs[n]? = some (s, m)) (h : badName s = false) (h2 : badNum m = false) (h0 : 0 < n) (hp : cs[n-1]? = some (s', m')) :
    errAt cs n = if notGt s s' then 9 else 0 := by
  obtain ⟨j, rfl⟩ : ∃ j, n = j + 1 := ⟨n - 1, by omega⟩
  unfold errAt; rw [hn]; simp only [h, h2, Nat.add_sub_cancel] at *; rw [hp]; simp
theorem badName_false {s : ByteArray} (h : badName s = false) : s.toList.isEmpty = false ∧ decide (400 < (s.size : Int)) = false := by
  unfold badName at h; rw [Bool.or_eq_false_iff] at h; exact h
theorem badNum_false {m : Int} (h : badNum m = false) : (m == 0) = false ∧ inB m = true := by
  unfold badNum at h; rw [Bool.or_eq_false_iff] at h; exact ⟨h.1, by simpa using h.2⟩

theorem checkS_long {cs : List (ByteArray × Int)} {k : Int} (h : 24 < cs.length) : 7 = checkS cs k := by simp [checkS, h]
theorem checkS_err {cs : List (ByteArray × Int)} {k e : Int} {n : Nat} (h : ¬ 24 < cs.length) (hj : ∀ j, j < n → errAt cs j = 0) (hk : n < cs.length) (he : errAt cs n = e) (h0 : e ≠ 0) : e = checkS cs k := by
  have := firstErr_some hj hk he h0
  simp [checkS, h, this, h0]
theorem checkS_end {cs : List (ByteArray × Int)} {k : Int} (h : ¬ 24 < cs.length) (hj : ∀ j, j < cs.length → errAt cs j = 0) : checkS cs k = if inB k then 0 else 2 := by
  have := firstErr_none hj
  simp [checkS, h, this]

theorem bl_alloc {B : Nat} {w wr : World} (h : Below B w wr) (hB : B < wr.heap.size) (o : Obj) : Below B w (wr.alloc o) := h.alloc (by omega) o
theorem bl_drewN {B : Nat} {w wr : World} (h : Below B w wr) (n : Nat) : Below B w (wr.drewN n) := ⟨h.os, h.tape, h.output, h.size, h.block⟩
theorem cl_alloc {wr : World} {p : Addr} {v : Value} (h : wr.cell? p = some v) (hp : p.block < wr.heap.size) (o : Obj) : (wr.alloc o).cell? p = some v := by
  rw [← h]; exact (((Below.refl wr.heap.size wr).alloc (Nat.le_refl _) o)).cell hp
theorem cl_drewN {wr : World} {p : Addr} {v : Value} (h : wr.cell? p = some v) (n : Nat) : (wr.drewN n).cell? p = some v := h

set_option maxHeartbeats 1000000 in
theorem R11_Check {L : List Nat} (w : World) (a : Option Addr) (len cap : Nat) (k : Int) (cs : List (ByteArray × Int)) (hc : IsCoefs L w a len cap cs) :
    Calls Try.prog 24 #[.agg #[.slice a len cap, .int .i64 k]] w fun e w' => e = .returned (.int .i64 (checkS cs k)) ∧ Below w.heap.size w w' := by
  have HC := Lib.hid hc
  have HL := Lib.hid hc.size
  clear hc
  by_cases h24 : 24 < len
  · go_enter Try.func24, Try.ntmps24
    go_wp2
    go_ret
    exact ⟨ret_int (checkS_long (by rw [HL.out]; exact h24)), (Below.refl _ _).alloc (Nat.le_refl _) _⟩
  · go_enter Try.func24, Try.ntmps24
    go_wp2
    go_loopw [3] (fun i wr => ∃ n : Nat, i = .int .i64 n ∧ n ≤ len ∧ Hid (∀ j, j < n → errAt cs j = 0) ∧ Below w.heap.size w wr ∧ wr.cell? ⟨w.heap.size, 0, none⟩ = some (.slice a len cap) ∧ wr.cell? ⟨w.heap.size, 1, none⟩ = some (.int .i64 k) ∧ w.heap.size < wr.heap.size) (fun i _ => len - (intOf i).toNat)
    case atStart => exact ⟨0, rfl, by omega, Lib.hid (fun j hj => by omega), (Below.refl _ _).alloc (Nat.le_refl _) _, by simp, by simp, by simp⟩
    case round =>
      obtain ⟨n, rfl, hn, HJ, hbe, hc0, hc1, hsz⟩ := hrel
      by_cases hlt : n < len
      · have hcl : n < cs.length := by rw [HC.out.size]; exact hlt
        obtain ⟨b, off, ha, ⟨hb, -⟩, hs, hi⟩ := HC.out.cells n hcl
        subst ha
        rw [← hbe.cell (by simpa using hb)] at hs hi
        generalize hcn : cs[n]'hcl = c at hs hi
        obtain ⟨s, m⟩ := c
        have HN : Hid (cs[n]? = some (s, m)) := Lib.hid (by rw [List.getElem?_eq_getElem hcl, hcn])
        clear hcn
        cases e1 : badName s
        case true =>
          have HE := Lib.hid (errAt_bad1 HN.out e1)
          have E1 := Lib.hid e1
          have e1' : (s.toList.isEmpty || decide (400 < (s.size : Int))) = true := e1
          clear e1
          go_wp2
          all_goals
            first
            | (go_ret
               exact ⟨ret_int (checkS_err (by rw [HL.out]; exact h24) HJ.out hcl HE.out (by decide)), hbe.alloc (by omega) _⟩)
            | (exfalso; simp_all; done)
        case false =>
        have HE1 := Lib.hid e1
        obtain ⟨e1', e1''⟩ := badName_false e1
        clear e1
        cases e2 : badNum m
        case true =>
          have HE := Lib.hid (errAt_bad2 HN.out HE1.out e2)
          have e2' : ((m == 0) || !inB m) = true := e2
          clear e2
          go_wp2_with (go_at_call 51; refine (R01_In _ _).mono ?_; rintro e w' ⟨rfl, rfl⟩)
          all_goals
            first
            | (go_ret
               exact ⟨ret_int (checkS_err (by rw [HL.out]; exact h24) HJ.out hcl HE.out (by decide)), hbe.alloc (by omega) _⟩)
            | (exfalso; simp_all; done)
        case false =>
        have HE2 := Lib.hid e2
        obtain ⟨e2', e2''⟩ := badNum_false e2
        clear e2
        by_cases hz : 0 < n
        · have hcl' : n - 1 < cs.length := by omega
          obtain ⟨b', off', ha', hb', hs', -⟩ := HC.out.cells (n - 1) hcl'
          obtain ⟨rfl, rfl⟩ : b = b' ∧ off = off' := by simpa using ha'
          rw [← hbe.cell (by simpa using hb)] at hs'
          generalize hcp : cs[n-1]'hcl' = s' at hs'
          obtain ⟨s', m'⟩ := s'
          have HP : Hid (cs[n-1]? = some (s', m')) := Lib.hid (by rw [List.getElem?_eq_getElem hcl', hcp])
          clear hcp ha' hb'
          have HE := Lib.hid (errAt_prev HN.out HE1.out HE2.out hz HP.out)
          have hgt : decide (0 < (n : Int)) = true := by simp; omega
          have hbw : b < wr.heap.size := by omega
          have i1 : (1 : Int) ≤ n := by omega
          have i2 : (n : Int) - 1 < len := by omega
          have i3 : 0 ≤ (n : Int) - 1 := by omega
          have i4 : ((n : Int) - 1).toNat = n - 1 := by omega
          have i5 : IntKind.i64.wrap ((n : Int) - 1) = (n : Int) - 1 := IntWalk.i64_in _ (by omega)
          cases e3 : notGt s s'
          all_goals
            have e3' := e3
            unfold notGt at e3'
            rw [e3] at HE
            clear e3
            go_wp2_with (go_at_call 51; refine (R01_In _ _).mono ?_; rintro e w' ⟨rfl, rfl⟩)
            go_quiet (fail)
            clear i4 i5
            go_wp2
          · go_roundw
            case rel => exact ⟨n + 1, by go_num, by omega, Lib.hid (upto_succ HJ.out HE.out), bl_drewN (bl_alloc hbe hsz _) _, cl_drewN (cl_alloc hc0 (by simpa using hsz) _) _, cl_drewN (cl_alloc hc1 (by simpa using hsz) _) _, by simp; omega⟩
            case measure => simp [intOf]; omega
          · go_ret
            exact ⟨ret_int (checkS_err (by rw [HL.out]; exact h24) HJ.out hcl HE.out (by decide)), bl_drewN (bl_alloc hbe hsz _) _⟩
        · have hgt : decide (0 < (n : Int)) = false := by simp; omega
          go_wp2_with (go_at_call 51; refine (R01_In _ _).mono ?_; rintro e w' ⟨rfl, rfl⟩)
          go_quiet (fail)
          go_wp2
          have HE := Lib.hid (errAt_first hz HN.out HE1.out HE2.out)
          go_roundw
          case rel => exact ⟨n + 1, by go_num, by omega, Lib.hid (upto_succ HJ.out HE.out), bl_drewN (bl_alloc hbe hsz _) _, cl_drewN (cl_alloc hc0 (by simpa using hsz) _) _, cl_drewN (cl_alloc hc1 (by simpa using hsz) _) _, by simp; omega⟩
          case measure => simp [intOf]; omega
      · have hend : n = len := by omega
        cases e4 : inB k
        all_goals
          go_wp2_with (go_at_call 51; refine (R01_In _ _).mono ?_; rintro e w' ⟨rfl, rfl⟩)
          go_ret
          refine ⟨ret_int ?_, hbe⟩
          rw [checkS_end (by rw [HL.out]; exact h24) (by rw [HL.out, ← hend]; exact HJ.out), e4]
          rfl
set_option maxHeartbeats 1000000 in
theorem linear_Check {L : List Nat} (w : World) (a : Option Addr) (len cap : Nat) (k : Int) (cs : List (ByteArray × Int)) (hc : IsCoefs L w a len cap cs) :
    Calls Try.prog 23 #[.agg #[.slice a len cap, .int .i64 k]] w fun e w' => e = .returned (.int .i64 (checkS cs k)) ∧ Below w.heap.size w w' := by
  have HC := Lib.hid hc
  have HL := Lib.hid hc.size
  clear hc
  by_cases h24 : 24 < len
  · go_enter Try.func23, Try.ntmps23
    go_wp2
    go_ret
    exact ⟨ret_int (checkS_long (by rw [HL.out]; exact h24)), (Below.refl _ _).alloc (Nat.le_refl _) _⟩
  · go_enter Try.func23, Try.ntmps23
    go_wp2
    go_loopw [12] (fun i wr => ∃ n : Nat, i = .int .i64 n ∧ n ≤ len ∧ Hid (∀ j, j < n → errAt cs j = 0) ∧ Below w.heap.size w wr ∧ wr.cell? ⟨w.heap.size, 0, none⟩ = some (.slice a len cap) ∧ wr.cell? ⟨w.heap.size, 1, none⟩ = some (.int .i64 k) ∧ w.heap.size < wr.heap.size) (fun i _ => len - (intOf i).toNat)
    case atStart => exact ⟨0, rfl, by omega, Lib.hid (fun j hj => by omega), (Below.refl _ _).alloc (Nat.le_refl _) _, by simp, by simp, by simp⟩
    case round =>
      obtain ⟨n, rfl, hn, HJ, hbe, hc0, hc1, hsz⟩ := hrel
      by_cases hlt : n < len
      · have hcl : n < cs.length := by rw [HC.out.size]; exact hlt
        obtain ⟨b, off, ha, ⟨hb, -⟩, hs, hi⟩ := HC.out.cells n hcl
        subst ha
        rw [← hbe.cell (by simpa using hb)] at hs hi
        generalize hcn : cs[n]'hcl = c at hs hi
        obtain ⟨s, m⟩ := c
        have HN : Hid (cs[n]? = some (s, m)) := Lib.hid (by rw [List.getElem?_eq_getElem hcl, hcn])
        clear hcn
        cases e1 : badName s
        case true =>
          have HE := Lib.hid (errAt_bad1 HN.out e1)
          have E1 := Lib.hid e1
          have e1' : (s.toList.isEmpty || decide (400 < (s.size : Int))) = true := e1
          clear e1
          go_wp2
          all_goals
            first
            | (go_ret
               exact ⟨ret_int (checkS_err (by rw [HL.out]; exact h24) HJ.out hcl HE.out (by decide)), hbe.alloc (by omega) _⟩)
            | (exfalso; simp_all; done)
        case false =>
        have HE1 := Lib.hid e1
        obtain ⟨e1', e1''⟩ := badName_false e1
        clear e1
        cases e2 : badNum m
        case true =>
          have HE := Lib.hid (errAt_bad2 HN.out HE1.out e2)
          have e2' : ((m == 0) || !inB m) = true := e2
          clear e2
          go_wp2_with (go_at_call 48; refine (num_In _ _).mono ?_; rintro e w' ⟨rfl, rfl⟩)
          all_goals
            first
            | (go_ret
               exact ⟨ret_int (checkS_err (by rw [HL.out]; exact h24) HJ.out hcl HE.out (by decide)), hbe.alloc (by omega) _⟩)
            | (exfalso; simp_all; done)
        case false =>
        have HE2 := Lib.hid e2
        obtain ⟨e2', e2''⟩ := badNum_false e2
        clear e2
        by_cases hz : 0 < n
        · have hcl' : n - 1 < cs.length := by omega
          obtain ⟨b', off', ha', hb', hs', -⟩ := HC.out.cells (n - 1) hcl'
          obtain ⟨rfl, rfl⟩ : b = b' ∧ off = off' := by simpa using ha'
          rw [← hbe.cell (by simpa using hb)] at hs'
          generalize hcp : cs[n-1]'hcl' = s' at hs'
          obtain ⟨s', m'⟩ := s'
          have HP : Hid (cs[n-1]? = some (s', m')) := Lib.hid (by rw [List.getElem?_eq_getElem hcl', hcp])
          clear hcp ha' hb'
          have HE := Lib.hid (errAt_prev HN.out HE1.out HE2.out hz HP.out)
          have hgt : decide (0 < (n : Int)) = true := by simp; omega
          have hbw : b < wr.heap.size := by omega
          have i1 : (1 : Int) ≤ n := by omega
          have i2 : (n : Int) - 1 < len := by omega
          have i3 : 0 ≤ (n : Int) - 1 := by omega
          have i4 : ((n : Int) - 1).toNat = n - 1 := by omega
          have i5 : IntKind.i64.wrap ((n : Int) - 1) = (n : Int) - 1 := IntWalk.i64_in _ (by omega)
          cases e3 : notGt s s'
          all_goals
            have e3' := e3
            unfold notGt at e3'
            rw [e3] at HE
            clear e3
            go_wp2_with (go_at_call 48; refine (num_In _ _).mono ?_; rintro e w' ⟨rfl, rfl⟩)
            go_quiet (fail)
            clear i4 i5
            go_wp2
          · go_roundw
            case rel => exact ⟨n + 1, by go_num, by omega, Lib.hid (upto_succ HJ.out HE.out), bl_drewN (bl_alloc hbe hsz _) _, cl_drewN (cl_alloc hc0 (by simpa using hsz) _) _, cl_drewN (cl_alloc hc1 (by simpa using hsz) _) _, by simp; omega⟩
            case measure => simp [intOf]; omega
          · go_ret
            exact ⟨ret_int (checkS_err (by rw [HL.out]; exact h24) HJ.out hcl HE.out (by decide)), bl_drewN (bl_alloc hbe hsz _) _⟩
        · have hgt : decide (0 < (n : Int)) = false := by simp; omega
          go_wp2_with (go_at_call 48; refine (num_In _ _).mono ?_; rintro e w' ⟨rfl, rfl⟩)
          go_quiet (fail)
          go_wp2
          have HE := Lib.hid (errAt_first hz HN.out HE1.out HE2.out)
          go_roundw
          case rel => exact ⟨n + 1, by go_num, by omega, Lib.hid (upto_succ HJ.out HE.out), bl_drewN (bl_alloc hbe hsz _) _, cl_drewN (cl_alloc hc0 (by simpa using hsz) _) _, cl_drewN (cl_alloc hc1 (by simpa using hsz) _) _, by simp; omega⟩
          case measure => simp [intOf]; omega
      · have hend : n = len := by omega
        cases e4 : inB k
        all_goals
          go_wp2_with (go_at_call 48; refine (num_In _ _).mono ?_; rintro e w' ⟨rfl, rfl⟩)
          go_ret
          refine ⟨ret_int ?_, hbe⟩
          rw [checkS_end (by rw [HL.out]; exact h24) (by rw [HL.out, ← hend]; exact HJ.out), e4]
          rfl
end Go.Proofs.Ytkghgdkkholieaa
