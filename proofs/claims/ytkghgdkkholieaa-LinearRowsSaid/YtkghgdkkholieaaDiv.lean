/-
  Walks: forms divided by a number.
-/
import Derived.Test.YtkghgdkkholieaaEach
namespace Go.Proofs.Ytkghgdkkholieaa
open Go.RowKit

/-- the block of a variable of the call's own -/
theorem blk_cell {w : World} {b : Nat} {cs : Array Value} {t : TypeId} (h : w.heap[b]? = some (.cells cs t (0, 0))) (i : Nat) (v : Value) (hv : cs[i]? = some v) : w.cell? ⟨b, i, none⟩ = some v := by
  simp [World.cell?, h, hv]
theorem blk_free {w : World} {b : Nat} {cs : Array Value} {t : TypeId} (h : w.heap[b]? = some (.cells cs t (0, 0))) (i : Nat) : w.frozen? ⟨b, i, none⟩ = false := by
  simp [World.frozen?, h]
theorem blk_lt {w : World} {b : Nat} {o : Obj} (h : w.heap[b]? = some o) : b < w.heap.size := (Array.getElem?_eq_some_iff.1 h).1
theorem blk_ext {w w' : World} {b : Nat} {o : Obj} (h : w.heap[b]? = some o) (he : Ext w w') : w'.heap[b]? = some o := by rw [he.block b (blk_lt h)]; exact h
theorem blk_extL {L : List Nat} {w w' : World} {b : Nat} {o : Obj} (h : w.heap[b]? = some o) (he : ExtL L w w') (hb : b ∉ L) : w'.heap[b]? = some o := by rw [he.block b (blk_lt h) hb]; exact h
theorem blk_set {w : World} {b : Nat} {cs : Array Value} {t : TypeId} (h : w.heap[b]? = some (.cells cs t (0, 0))) (i : Nat) (u : Value) : (w.setCell ⟨b, i, none⟩ u).heap[b]? = some (.cells (cs.setIfInBounds i u) t (0, 0)) := by
  simp [World.setCell, Array.getElem?_modify, h]
theorem blk_other {w : World} {b : Nat} {o : Obj} (h : w.heap[b]? = some o) {p : Addr} (hp : p.block ≠ b) (u : Value) : (w.setCell p u).heap[b]? = some o := by
  rw [Below.heap_setCell _ _ _ _ (fun e => hp e.symm)]; exact h
theorem owns_row {w : World} {base : Nat} {e : TypeId} {size : Nat} {v : Value} {n : Nat} {xs : List Value} (h : w.ownsRow base e size v n xs) : ∀ k, v.ownBlock = some k → base ≤ k ∧ k < w.heap.size := by
  intro k hk
  rcases h.2 with ⟨hv, _⟩ | ⟨g, cap, cur, hv, hb, hh, _⟩
  · rw [hv] at hk; simp [Value.ownBlock] at hk
  · rw [hv] at hk; simp [Value.ownBlock] at hk; subst hk; exact ⟨hb, (Array.getElem?_eq_some_iff.1 hh).1⟩
theorem row_list (v : Value) : ∀ k, v.ownBlock = some k → k ∈ v.ownBlock.toList := by intro k hk; rw [hk]; simp
theorem not_row {w : World} {base : Nat} {e : TypeId} {size : Nat} {v : Value} {n : Nat} {xs : List Value} (h : w.ownsRow base e size v n xs) {k : Nat} (hk : k < base) : k ∉ v.ownBlock.toList := by
  intro hh
  rw [Option.mem_toList] at hh
  have := (owns_row h k hh).1
  omega

/-- a new block of one element -/
def KNew (B : Nat) (vs : List Value) (t : TypeId) : Know := ⟨fun w v => ∃ b, B ≤ b ∧ v = .slice (some ⟨b, 0, none⟩) 1 1 ∧ w.heap[b]? = some (.cells vs.toArray t (0, 0)), fun _ _ _ he ⟨b, h1, h2, h3⟩ => ⟨b, h1, h2, blk_ext h3 he⟩⟩
theorem KNew.far {L : List Nat} {B : Nat} {vs : List Value} {t : TypeId} (h : ∀ k ∈ L, k < B) : Far L (KNew B vs t) := fun _ _ _ he ⟨b, h1, h2, h3⟩ => ⟨b, h1, h2, blk_extL h3 he fun hb => by have := h b hb; omega⟩
/-- a row of the call's own -/
def KRow (base : Nat) (e : TypeId) (size n : Nat) (xs : List Value) : Know := ⟨fun w v => w.ownsRow base e size v n xs, fun _ _ _ he h => owns_ext h he⟩

theorem owns_slice {w : World} {base : Nat} {e : TypeId} {size : Nat} {v : Value} {n : Nat} {xs : List Value} (h : w.ownsRow base e size v n xs) : ∃ a cap, v = .slice a n cap := by
  rcases h.2 with ⟨hv, hn⟩ | ⟨g, cap, cur, hv, _⟩
  · exact ⟨none, 0, by rw [hv, hn]⟩
  · exact ⟨_, _, hv⟩
theorem ext_extL {L : List Nat} {w wr w' : World} (h : Ext w wr) (k : ExtL L wr w') (hL : ∀ x ∈ L, w.heap.size ≤ x) : Ext w w' :=
  ⟨k.os.trans h.os, k.tape.trans h.tape, k.output.trans h.output, Nat.le_trans h.size k.size, fun i hi => (k.block i (Nat.lt_of_lt_of_le hi h.size) (fun hh => by have := hL i hh; omega)).trans (h.block i hi)⟩
theorem row_from {w : World} {base : Nat} {e : TypeId} {size : Nat} {v : Value} {n : Nat} {xs : List Value} (h : w.ownsRow base e size v n xs) {B : Nat} (hB : B ≤ base) : ∀ x ∈ v.ownBlock.toList, B ≤ x := by
  intro x hx
  rw [Option.mem_toList] at hx
  have := (owns_row h x hx).1
  omega

/-- a result that lies in a variable of the call's own, behind its store -/
theorem res_Lin {fn : Func} {p : Tmp} {tmps : Array Value} {w : World} {V : Nat} {o0 o1 x y : Value} {t : TypeId} (hf : fn.results = #[.cell p 24]) (hp : tmps.getD p undef = .pointer (some ⟨V, 0, none⟩)) (h : w.heap[V]? = some (.cells #[o0, o1] t (0, 0))) :
    (results fn tmps).run Try.prog ((w.setCell ⟨V, 0, none⟩ x).setCell ⟨V, 1, none⟩ y) = .ok (.agg #[x, y]) ((w.setCell ⟨V, 0, none⟩ x).setCell ⟨V, 1, none⟩ y) := by
  have BZ := blk_set (blk_set h 0 x) 1 y
  rw [Array.getD_eq_getD_getElem?] at hp
  simp [results, hf, go_sem, hp, blk_cell BZ 0 _ rfl, blk_cell BZ 1 _ rfl]
theorem res_Row {fn : Func} {p : Tmp} {tmps : Array Value} {w : World} {V : Nat} {o0 o1 o2 x y z : Value} {t : TypeId} (hf : fn.results = #[.cell p 26]) (hp : tmps.getD p undef = .pointer (some ⟨V, 0, none⟩)) (h : w.heap[V]? = some (.cells #[o0, o1, o2] t (0, 0))) :
    (results fn tmps).run Try.prog (((w.setCell ⟨V, 0, none⟩ x).setCell ⟨V, 1, none⟩ y).setCell ⟨V, 2, none⟩ z) = .ok (.agg #[x, y, z]) (((w.setCell ⟨V, 0, none⟩ x).setCell ⟨V, 1, none⟩ y).setCell ⟨V, 2, none⟩ z) := by
  have BZ := blk_set (blk_set (blk_set h 0 x) 1 y) 2 z
  rw [Array.getD_eq_getD_getElem?] at hp
  simp [results, hf, go_sem, hp, blk_cell BZ 0 _ rfl, blk_cell BZ 1 _ rfl, blk_cell BZ 2 _ rfl]

theorem IsCoefs.extL {L M : List Nat} {w w' : World} {a : Option Addr} {len cap : Nat} {cs : List (ByteArray × Int)} (h : IsCoefs L w a len cap cs) (he : ExtL M w w') (hM : ∀ x ∈ M, x ∈ L) : IsCoefs L w' a len cap cs := by
  refine ⟨h.size, h.room, h.void, fun i hi => ?_⟩
  obtain ⟨b, off, ha, ⟨h1, h0⟩, h2, h3⟩ := h.cells i hi
  exact ⟨b, off, ha, ⟨Nat.lt_of_lt_of_le h1 he.size, h0⟩, he.cell (fun hm => h0 (hM _ hm)) h2, he.cell (fun hm => h0 (hM _ hm)) h3⟩
theorem KL.far {L M : List Nat} {cs : List (ByteArray × Int)} (hM : ∀ x ∈ M, x ∈ L) : Far M (KL L cs) := fun _ _ _ he ⟨a, l, c, e, h⟩ => ⟨a, l, c, e, h.extL he hM⟩
theorem KLin.far {L M : List Nat} {cs : List (ByteArray × Int)} {k : Int} (hM : ∀ x ∈ M, x ∈ L) : Far M (KLin L cs k) := fun _ _ _ he ⟨a, l, c, e, h⟩ => ⟨a, l, c, e, h.extL he hM⟩
/-- a variable that holds a form -/
def KBL (L : List Nat) (V : Nat) (cs : List (ByteArray × Int)) (k : Int) : Know := ⟨fun w _ => ∃ a l c, w.heap[V]? = some (.cells #[.slice a l c, .int .i64 k] 24 (0, 0)) ∧ IsCoefs L w a l c cs,
  fun _ _ _ he ⟨a, l, c, h1, h2⟩ => ⟨a, l, c, blk_ext h1 he, h2.below he⟩⟩
theorem res_blk {fn : Func} {p : Tmp} {tmps : Array Value} {w : World} {V : Nat} {x y : Value} {t : TypeId} (hf : fn.results = #[.cell p 24]) (hp : tmps.getD p undef = .pointer (some ⟨V, 0, none⟩)) (h : w.heap[V]? = some (.cells #[x, y] t (0, 0))) :
    (results fn tmps).run Try.prog w = .ok (.agg #[x, y]) w := by
  rw [Array.getD_eq_getD_getElem?] at hp
  simp [results, hf, go_sem, hp, blk_cell h 0 _ rfl, blk_cell h 1 _ rfl]

/-- the numbers of a list turned -/
def mapC (F : Int → Int) (cs : List (ByteArray × Int)) : List (ByteArray × Int) := cs.map fun c => (c.1, F c.2)
theorem mapC_len (F : Int → Int) (cs : List (ByteArray × Int)) : (mapC F cs).length = cs.length := by simp [mapC]
theorem mapC_take (F : Int → Int) (cs : List (ByteArray × Int)) (n : Nat) (h : n < cs.length) : flatC ((mapC F cs).take (n + 1)) = flatC ((mapC F cs).take n) ++ [.string cs[n].1, .int .i64 (F cs[n].2)] := by
  rw [List.take_succ_eq_append_getElem (by rw [mapC_len]; exact h), flatC_app]
  simp [mapC, flatC]

set_option maxHeartbeats 2000000 in
theorem R11_divided {L : List Nat} (w : World) (a : Option Addr) (len cap : Nat) (k g c : Int) (cs : List (ByteArray × Int)) (hc : IsCoefs L w a len cap cs) (hL : Under L w.heap.size) (hm : len ≤ 1000000)
    (hg : g ≠ 0) (hb : ∀ c ∈ cs, -1000000000000 ≤ c.2 ∧ c.2 ≤ 1000000000000) :
    Calls Try.prog 34 #[.agg #[.slice a len cap, .int .i64 k], .int .i64 g, .int .i64 c] w fun e w' => ∃ v, e = .returned v ∧ IsLin L w' v (mapC (·.tdiv g) cs) c ∧ Ext w w' := by
  obtain ⟨i0, hi, hz0, hz1, hz2⟩ := info_parts Try.info37
  have HC := Lib.hid hc
  have HU := Lib.hid hL
  have HB := Lib.hid hb
  have hg' : (g == 0) = false := by simpa using hg
  have HG := Lib.hid hg
  clear hc hL hb hg
  go_enter Try.func34, Try.ntmps34
  go_wp2
  go_loopw [8] (fun i wr => ∃ (n : Nat) (v : Value), i = .int .i64 n ∧ n ≤ len ∧ wr.ownsRow (w.heap.size + 3) 37 2 v n (flatC ((mapC (·.tdiv g) cs).take n)) ∧ Ext w wr ∧
    wr.heap[w.heap.size]? = some (.cells #[.slice a len cap, .int .i64 k] 24 (0, 0)) ∧ wr.heap[w.heap.size + 1]? = some (.cells #[.slice none 0 0, .int .i64 0] 24 (0, 0)) ∧ wr.heap[w.heap.size + 2]? = some (.cells #[v, .int .i64 c] 24 (0, 0))) (fun i _ => len - (intOf i).toNat)
  case atStart => exact ⟨0, .slice none 0 0, rfl, by omega, owns_nil _ _ _ _, ((Ext.alloc _ _).trans (Ext.alloc _ _)).trans (Ext.alloc _ _), blk_ext (heap_new _ _) ((Ext.alloc _ _).trans (Ext.alloc _ _)), blk_ext (heap_new' (by simp)) (Ext.alloc _ _), heap_new' (by simp)⟩
  case round =>
    obtain ⟨n, v, rfl, hn, hown, hbe, b0, b1, b2⟩ := hrel
    have c0 := blk_cell b0 0 _ rfl
    have HE := Lib.hid hbe
    have HO := Lib.hid hown
    have B0 := Lib.hid b0
    have B1 := Lib.hid b1
    have B2 := Lib.hid b2
    clear hbe hown b0 b1 b2
    by_cases hlt : n < len
    · have hcl : n < cs.length := by rw [HC.out.size]; exact hlt
      obtain ⟨b, off, ha, ⟨hb, -⟩, hs, hi'⟩ := HC.out.cells n hcl
      subst ha
      rw [← HE.out.cell' (by simpa using hb)] at hs hi'
      have hq := HB.out cs[n] (List.getElem_mem hcl)
      have HT := Lib.hid (mapC_take (·.tdiv g) cs n hcl)
      generalize hcn : cs[n]'hcl = x at hs hi' hq HT
      obtain ⟨s, m⟩ := x
      clear hcn
      obtain ⟨hq1, hq2⟩ := hq
      obtain ⟨hq3, hq4⟩ := tdiv_bound hq1 hq2 (b := g)
      go_wp2
      apply wp_region_row 18 (v.ownBlock) (v.ownBlock.toList) [some 18, some 19, some 20, some 21, some 22, some 23, some 24, some 25, some 26, some 27, some 28, some 29, some 30, some 31, some 32, some 33, some 34, some 35, some 36, some 37, none] 21 20 [Is _, Is _, Is _, Is _, Is _, Is _, Is _, Is _, Is _, Is _, Is _, Is _, Is _, Is _, Is _, Is _, Is _, KNew wr.heap.size [.string s, .int .i64 (m.tdiv g)] 37, KRow (w.heap.size + 3) 37 2 (n + 1) (flatC ((mapC (·.tdiv g) cs).take (n + 1))), Is _] mixed rfl rfl (by decide) (by kernel_rfl)
      case hop =>
        refine allOps_cons ?o0 (allOps_cons ?o1 (allOps_cons ?o2 (allOps_cons ?o3 (allOps_cons ?o4 (allOps_cons ?o5 (allOps_cons ?o6 (allOps_cons ?o7 (allOps_cons ?o8 (allOps_cons ?o9 (allOps_cons ?o10 (allOps_cons ?o11 (allOps_cons ?o12 (allOps_cons ?o13 (allOps_cons ?o14 (allOps_cons ?o15 (allOps_cons ?o16 (allOps_cons ?o17 (allOps_cons ?o18 (allOps_cons ?o19 allOps_nil)))))))))))))))))))
        case o0 =>
          refine opGoal_plain rfl rfl (by simp) fun f w' hr hk => ?_
          have d0 : w'.cell? ⟨w.heap.size, 0, none⟩ = some (.slice (some ⟨b, off, none⟩) len cap) := blk_cell (blk_extL B0.out hr (not_row HO.out (by omega))) 0 _ rfl
          have d1 : w'.cell? ⟨w.heap.size + 2, 0, none⟩ = some v := blk_cell (blk_extL B2.out hr (not_row HO.out (by omega))) 0 _ rfl
          have d2 : w'.cell? ⟨b, off + n * 2, none⟩ = some (.string s) := hr.cell (not_row HO.out (by simp; omega)) hs
          have d3 : w'.cell? ⟨b, off + n * 2 + 1, none⟩ = some (.int .i64 m) := hr.cell (not_row HO.out (by simp; omega)) hi'
          have HR := Lib.hid hr
          clear hr
          simp [putD, depsO, depsL, phi, Is, KnowAll, Region.binds, put_some, put_none, KNew, KRow] at hk ⊢
          try simp only [hk]
          go_wp2
          exact onePost_is _ rfl rfl ⟨Ext.refl _, rfl⟩
        case o1 =>
          refine opGoal_plain rfl rfl (by simp) fun f w' hr hk => ?_
          have d0 : w'.cell? ⟨w.heap.size, 0, none⟩ = some (.slice (some ⟨b, off, none⟩) len cap) := blk_cell (blk_extL B0.out hr (not_row HO.out (by omega))) 0 _ rfl
          have d1 : w'.cell? ⟨w.heap.size + 2, 0, none⟩ = some v := blk_cell (blk_extL B2.out hr (not_row HO.out (by omega))) 0 _ rfl
          have d2 : w'.cell? ⟨b, off + n * 2, none⟩ = some (.string s) := hr.cell (not_row HO.out (by simp; omega)) hs
          have d3 : w'.cell? ⟨b, off + n * 2 + 1, none⟩ = some (.int .i64 m) := hr.cell (not_row HO.out (by simp; omega)) hi'
          have HR := Lib.hid hr
          clear hr
          simp [putD, depsO, depsL, phi, Is, KnowAll, Region.binds, put_some, put_none, KNew, KRow] at hk ⊢
          try simp only [hk]
          go_wp2
          exact onePost_is _ rfl rfl ⟨Ext.refl _, rfl⟩
        case o2 =>
          refine opGoal_plain rfl rfl (by simp) fun f w' hr hk => ?_
          have d0 : w'.cell? ⟨w.heap.size, 0, none⟩ = some (.slice (some ⟨b, off, none⟩) len cap) := blk_cell (blk_extL B0.out hr (not_row HO.out (by omega))) 0 _ rfl
          have d1 : w'.cell? ⟨w.heap.size + 2, 0, none⟩ = some v := blk_cell (blk_extL B2.out hr (not_row HO.out (by omega))) 0 _ rfl
          have d2 : w'.cell? ⟨b, off + n * 2, none⟩ = some (.string s) := hr.cell (not_row HO.out (by simp; omega)) hs
          have d3 : w'.cell? ⟨b, off + n * 2 + 1, none⟩ = some (.int .i64 m) := hr.cell (not_row HO.out (by simp; omega)) hi'
          have HR := Lib.hid hr
          clear hr
          simp [putD, depsO, depsL, phi, Is, KnowAll, Region.binds, put_some, put_none, KNew, KRow] at hk ⊢
          try simp only [hk]
          go_wp2
          exact onePost_is _ rfl rfl ⟨Ext.refl _, rfl⟩
        case o3 =>
          refine opGoal_plain rfl rfl (by simp) fun f w' hr hk => ?_
          have d0 : w'.cell? ⟨w.heap.size, 0, none⟩ = some (.slice (some ⟨b, off, none⟩) len cap) := blk_cell (blk_extL B0.out hr (not_row HO.out (by omega))) 0 _ rfl
          have d1 : w'.cell? ⟨w.heap.size + 2, 0, none⟩ = some v := blk_cell (blk_extL B2.out hr (not_row HO.out (by omega))) 0 _ rfl
          have d2 : w'.cell? ⟨b, off + n * 2, none⟩ = some (.string s) := hr.cell (not_row HO.out (by simp; omega)) hs
          have d3 : w'.cell? ⟨b, off + n * 2 + 1, none⟩ = some (.int .i64 m) := hr.cell (not_row HO.out (by simp; omega)) hi'
          have HR := Lib.hid hr
          clear hr
          simp [putD, depsO, depsL, phi, Is, KnowAll, Region.binds, put_some, put_none, KNew, KRow] at hk ⊢
          try simp only [hk]
          go_wp2
          exact onePost_is _ rfl rfl ⟨Ext.refl _, rfl⟩
        case o4 =>
          refine opGoal_plain rfl rfl (by simp) fun f w' hr hk => ?_
          have d0 : w'.cell? ⟨w.heap.size, 0, none⟩ = some (.slice (some ⟨b, off, none⟩) len cap) := blk_cell (blk_extL B0.out hr (not_row HO.out (by omega))) 0 _ rfl
          have d1 : w'.cell? ⟨w.heap.size + 2, 0, none⟩ = some v := blk_cell (blk_extL B2.out hr (not_row HO.out (by omega))) 0 _ rfl
          have d2 : w'.cell? ⟨b, off + n * 2, none⟩ = some (.string s) := hr.cell (not_row HO.out (by simp; omega)) hs
          have d3 : w'.cell? ⟨b, off + n * 2 + 1, none⟩ = some (.int .i64 m) := hr.cell (not_row HO.out (by simp; omega)) hi'
          have HR := Lib.hid hr
          clear hr
          simp [putD, depsO, depsL, phi, Is, KnowAll, Region.binds, put_some, put_none, KNew, KRow] at hk ⊢
          try simp only [hk]
          go_wp2
          exact onePost_is _ rfl rfl ⟨Ext.refl _, rfl⟩
        case o5 =>
          refine opGoal_plain rfl rfl (by simp) fun f w' hr hk => ?_
          have d0 : w'.cell? ⟨w.heap.size, 0, none⟩ = some (.slice (some ⟨b, off, none⟩) len cap) := blk_cell (blk_extL B0.out hr (not_row HO.out (by omega))) 0 _ rfl
          have d1 : w'.cell? ⟨w.heap.size + 2, 0, none⟩ = some v := blk_cell (blk_extL B2.out hr (not_row HO.out (by omega))) 0 _ rfl
          have d2 : w'.cell? ⟨b, off + n * 2, none⟩ = some (.string s) := hr.cell (not_row HO.out (by simp; omega)) hs
          have d3 : w'.cell? ⟨b, off + n * 2 + 1, none⟩ = some (.int .i64 m) := hr.cell (not_row HO.out (by simp; omega)) hi'
          have HR := Lib.hid hr
          clear hr
          simp [putD, depsO, depsL, phi, Is, KnowAll, Region.binds, put_some, put_none, KNew, KRow] at hk ⊢
          try simp only [hk]
          go_wp2
          exact onePost_is _ rfl rfl ⟨Ext.refl _, rfl⟩
        case o6 =>
          refine opGoal_plain rfl rfl (by simp) fun f w' hr hk => ?_
          have d0 : w'.cell? ⟨w.heap.size, 0, none⟩ = some (.slice (some ⟨b, off, none⟩) len cap) := blk_cell (blk_extL B0.out hr (not_row HO.out (by omega))) 0 _ rfl
          have d1 : w'.cell? ⟨w.heap.size + 2, 0, none⟩ = some v := blk_cell (blk_extL B2.out hr (not_row HO.out (by omega))) 0 _ rfl
          have d2 : w'.cell? ⟨b, off + n * 2, none⟩ = some (.string s) := hr.cell (not_row HO.out (by simp; omega)) hs
          have d3 : w'.cell? ⟨b, off + n * 2 + 1, none⟩ = some (.int .i64 m) := hr.cell (not_row HO.out (by simp; omega)) hi'
          have HR := Lib.hid hr
          clear hr
          simp [putD, depsO, depsL, phi, Is, KnowAll, Region.binds, put_some, put_none, KNew, KRow] at hk ⊢
          try simp only [hk]
          go_wp2
          exact onePost_is _ rfl rfl ⟨Ext.refl _, rfl⟩
        case o7 =>
          refine opGoal_plain rfl rfl (by simp) fun f w' hr hk => ?_
          have d0 : w'.cell? ⟨w.heap.size, 0, none⟩ = some (.slice (some ⟨b, off, none⟩) len cap) := blk_cell (blk_extL B0.out hr (not_row HO.out (by omega))) 0 _ rfl
          have d1 : w'.cell? ⟨w.heap.size + 2, 0, none⟩ = some v := blk_cell (blk_extL B2.out hr (not_row HO.out (by omega))) 0 _ rfl
          have d2 : w'.cell? ⟨b, off + n * 2, none⟩ = some (.string s) := hr.cell (not_row HO.out (by simp; omega)) hs
          have d3 : w'.cell? ⟨b, off + n * 2 + 1, none⟩ = some (.int .i64 m) := hr.cell (not_row HO.out (by simp; omega)) hi'
          have HR := Lib.hid hr
          clear hr
          simp [putD, depsO, depsL, phi, Is, KnowAll, Region.binds, put_some, put_none, KNew, KRow] at hk ⊢
          try simp only [hk]
          go_wp2
          exact onePost_is _ rfl rfl ⟨Ext.refl _, rfl⟩
        case o8 =>
          refine opGoal_plain rfl rfl (by simp) fun f w' hr hk => ?_
          have d0 : w'.cell? ⟨w.heap.size, 0, none⟩ = some (.slice (some ⟨b, off, none⟩) len cap) := blk_cell (blk_extL B0.out hr (not_row HO.out (by omega))) 0 _ rfl
          have d1 : w'.cell? ⟨w.heap.size + 2, 0, none⟩ = some v := blk_cell (blk_extL B2.out hr (not_row HO.out (by omega))) 0 _ rfl
          have d2 : w'.cell? ⟨b, off + n * 2, none⟩ = some (.string s) := hr.cell (not_row HO.out (by simp; omega)) hs
          have d3 : w'.cell? ⟨b, off + n * 2 + 1, none⟩ = some (.int .i64 m) := hr.cell (not_row HO.out (by simp; omega)) hi'
          have HR := Lib.hid hr
          clear hr
          simp [putD, depsO, depsL, phi, Is, KnowAll, Region.binds, put_some, put_none, KNew, KRow] at hk ⊢
          try simp only [hk]
          go_wp2
          exact onePost_is _ rfl rfl ⟨Ext.refl _, rfl⟩
        case o9 =>
          refine opGoal_plain rfl rfl (by simp) fun f w' hr hk => ?_
          have d0 : w'.cell? ⟨w.heap.size, 0, none⟩ = some (.slice (some ⟨b, off, none⟩) len cap) := blk_cell (blk_extL B0.out hr (not_row HO.out (by omega))) 0 _ rfl
          have d1 : w'.cell? ⟨w.heap.size + 2, 0, none⟩ = some v := blk_cell (blk_extL B2.out hr (not_row HO.out (by omega))) 0 _ rfl
          have d2 : w'.cell? ⟨b, off + n * 2, none⟩ = some (.string s) := hr.cell (not_row HO.out (by simp; omega)) hs
          have d3 : w'.cell? ⟨b, off + n * 2 + 1, none⟩ = some (.int .i64 m) := hr.cell (not_row HO.out (by simp; omega)) hi'
          have HR := Lib.hid hr
          clear hr
          simp [putD, depsO, depsL, phi, Is, KnowAll, Region.binds, put_some, put_none, KNew, KRow] at hk ⊢
          try simp only [hk]
          go_wp2
          exact onePost_is _ rfl rfl ⟨Ext.refl _, rfl⟩
        case o10 =>
          refine opGoal_plain rfl rfl (by simp) fun f w' hr hk => ?_
          have d0 : w'.cell? ⟨w.heap.size, 0, none⟩ = some (.slice (some ⟨b, off, none⟩) len cap) := blk_cell (blk_extL B0.out hr (not_row HO.out (by omega))) 0 _ rfl
          have d1 : w'.cell? ⟨w.heap.size + 2, 0, none⟩ = some v := blk_cell (blk_extL B2.out hr (not_row HO.out (by omega))) 0 _ rfl
          have d2 : w'.cell? ⟨b, off + n * 2, none⟩ = some (.string s) := hr.cell (not_row HO.out (by simp; omega)) hs
          have d3 : w'.cell? ⟨b, off + n * 2 + 1, none⟩ = some (.int .i64 m) := hr.cell (not_row HO.out (by simp; omega)) hi'
          have HR := Lib.hid hr
          clear hr
          simp [putD, depsO, depsL, phi, Is, KnowAll, Region.binds, put_some, put_none, KNew, KRow] at hk ⊢
          try simp only [hk]
          go_wp2
          exact onePost_is _ rfl rfl ⟨Ext.refl _, rfl⟩
        case o11 =>
          refine opGoal_plain rfl rfl (by simp) fun f w' hr hk => ?_
          have d0 : w'.cell? ⟨w.heap.size, 0, none⟩ = some (.slice (some ⟨b, off, none⟩) len cap) := blk_cell (blk_extL B0.out hr (not_row HO.out (by omega))) 0 _ rfl
          have d1 : w'.cell? ⟨w.heap.size + 2, 0, none⟩ = some v := blk_cell (blk_extL B2.out hr (not_row HO.out (by omega))) 0 _ rfl
          have d2 : w'.cell? ⟨b, off + n * 2, none⟩ = some (.string s) := hr.cell (not_row HO.out (by simp; omega)) hs
          have d3 : w'.cell? ⟨b, off + n * 2 + 1, none⟩ = some (.int .i64 m) := hr.cell (not_row HO.out (by simp; omega)) hi'
          have HR := Lib.hid hr
          clear hr
          simp [putD, depsO, depsL, phi, Is, KnowAll, Region.binds, put_some, put_none, KNew, KRow] at hk ⊢
          try simp only [hk]
          go_wp2
          exact onePost_is _ rfl rfl ⟨Ext.refl _, rfl⟩
        case o12 =>
          refine opGoal_plain rfl rfl (by simp) fun f w' hr hk => ?_
          have d0 : w'.cell? ⟨w.heap.size, 0, none⟩ = some (.slice (some ⟨b, off, none⟩) len cap) := blk_cell (blk_extL B0.out hr (not_row HO.out (by omega))) 0 _ rfl
          have d1 : w'.cell? ⟨w.heap.size + 2, 0, none⟩ = some v := blk_cell (blk_extL B2.out hr (not_row HO.out (by omega))) 0 _ rfl
          have d2 : w'.cell? ⟨b, off + n * 2, none⟩ = some (.string s) := hr.cell (not_row HO.out (by simp; omega)) hs
          have d3 : w'.cell? ⟨b, off + n * 2 + 1, none⟩ = some (.int .i64 m) := hr.cell (not_row HO.out (by simp; omega)) hi'
          have HR := Lib.hid hr
          clear hr
          simp [putD, depsO, depsL, phi, Is, KnowAll, Region.binds, put_some, put_none, KNew, KRow] at hk ⊢
          try simp only [hk]
          go_wp2
          exact onePost_is _ rfl rfl ⟨Ext.refl _, rfl⟩
        case o13 =>
          refine opGoal_plain rfl rfl (by simp) fun f w' hr hk => ?_
          have d0 : w'.cell? ⟨w.heap.size, 0, none⟩ = some (.slice (some ⟨b, off, none⟩) len cap) := blk_cell (blk_extL B0.out hr (not_row HO.out (by omega))) 0 _ rfl
          have d1 : w'.cell? ⟨w.heap.size + 2, 0, none⟩ = some v := blk_cell (blk_extL B2.out hr (not_row HO.out (by omega))) 0 _ rfl
          have d2 : w'.cell? ⟨b, off + n * 2, none⟩ = some (.string s) := hr.cell (not_row HO.out (by simp; omega)) hs
          have d3 : w'.cell? ⟨b, off + n * 2 + 1, none⟩ = some (.int .i64 m) := hr.cell (not_row HO.out (by simp; omega)) hi'
          have HR := Lib.hid hr
          clear hr
          simp [putD, depsO, depsL, phi, Is, KnowAll, Region.binds, put_some, put_none, KNew, KRow] at hk ⊢
          try simp only [hk]
          go_wp2
          exact onePost_is _ rfl rfl ⟨Ext.refl _, rfl⟩
        case o14 =>
          refine opGoal_plain rfl rfl (by simp) fun f w' hr hk => ?_
          have d0 : w'.cell? ⟨w.heap.size, 0, none⟩ = some (.slice (some ⟨b, off, none⟩) len cap) := blk_cell (blk_extL B0.out hr (not_row HO.out (by omega))) 0 _ rfl
          have d1 : w'.cell? ⟨w.heap.size + 2, 0, none⟩ = some v := blk_cell (blk_extL B2.out hr (not_row HO.out (by omega))) 0 _ rfl
          have d2 : w'.cell? ⟨b, off + n * 2, none⟩ = some (.string s) := hr.cell (not_row HO.out (by simp; omega)) hs
          have d3 : w'.cell? ⟨b, off + n * 2 + 1, none⟩ = some (.int .i64 m) := hr.cell (not_row HO.out (by simp; omega)) hi'
          have HR := Lib.hid hr
          clear hr
          simp [putD, depsO, depsL, phi, Is, KnowAll, Region.binds, put_some, put_none, KNew, KRow] at hk ⊢
          try simp only [hk]
          go_wp2
          exact onePost_is _ rfl rfl ⟨Ext.refl _, rfl⟩
        case o15 =>
          refine opGoal_plain rfl rfl (by simp) fun f w' hr hk => ?_
          have d0 : w'.cell? ⟨w.heap.size, 0, none⟩ = some (.slice (some ⟨b, off, none⟩) len cap) := blk_cell (blk_extL B0.out hr (not_row HO.out (by omega))) 0 _ rfl
          have d1 : w'.cell? ⟨w.heap.size + 2, 0, none⟩ = some v := blk_cell (blk_extL B2.out hr (not_row HO.out (by omega))) 0 _ rfl
          have d2 : w'.cell? ⟨b, off + n * 2, none⟩ = some (.string s) := hr.cell (not_row HO.out (by simp; omega)) hs
          have d3 : w'.cell? ⟨b, off + n * 2 + 1, none⟩ = some (.int .i64 m) := hr.cell (not_row HO.out (by simp; omega)) hi'
          have HR := Lib.hid hr
          clear hr
          simp [putD, depsO, depsL, phi, Is, KnowAll, Region.binds, put_some, put_none, KNew, KRow] at hk ⊢
          try simp only [hk]
          go_wp2
          exact onePost_is _ rfl rfl ⟨Ext.refl _, rfl⟩
        case o16 =>
          refine opGoal_plain rfl rfl (by simp) fun f w' hr hk => ?_
          have d0 : w'.cell? ⟨w.heap.size, 0, none⟩ = some (.slice (some ⟨b, off, none⟩) len cap) := blk_cell (blk_extL B0.out hr (not_row HO.out (by omega))) 0 _ rfl
          have d1 : w'.cell? ⟨w.heap.size + 2, 0, none⟩ = some v := blk_cell (blk_extL B2.out hr (not_row HO.out (by omega))) 0 _ rfl
          have d2 : w'.cell? ⟨b, off + n * 2, none⟩ = some (.string s) := hr.cell (not_row HO.out (by simp; omega)) hs
          have d3 : w'.cell? ⟨b, off + n * 2 + 1, none⟩ = some (.int .i64 m) := hr.cell (not_row HO.out (by simp; omega)) hi'
          have HR := Lib.hid hr
          clear hr
          simp [putD, depsO, depsL, phi, Is, KnowAll, Region.binds, put_some, put_none, KNew, KRow] at hk ⊢
          try simp only [hk]
          go_wp2
          exact onePost_is _ rfl rfl ⟨Ext.refl _, rfl⟩
        case o17 =>
          refine opGoal_plain rfl rfl (by simp) fun f w' hr hk => ?_
          have d0 : w'.cell? ⟨w.heap.size, 0, none⟩ = some (.slice (some ⟨b, off, none⟩) len cap) := blk_cell (blk_extL B0.out hr (not_row HO.out (by omega))) 0 _ rfl
          have d1 : w'.cell? ⟨w.heap.size + 2, 0, none⟩ = some v := blk_cell (blk_extL B2.out hr (not_row HO.out (by omega))) 0 _ rfl
          have d2 : w'.cell? ⟨b, off + n * 2, none⟩ = some (.string s) := hr.cell (not_row HO.out (by simp; omega)) hs
          have d3 : w'.cell? ⟨b, off + n * 2 + 1, none⟩ = some (.int .i64 m) := hr.cell (not_row HO.out (by simp; omega)) hi'
          have HR := Lib.hid hr
          clear hr
          simp [putD, depsO, depsL, phi, Is, KnowAll, Region.binds, put_some, put_none, KNew, KRow] at hk ⊢
          rw [hk]
          go_wp2
          exact ⟨rfl, rfl, Ext.alloc _ _, _, Nat.le_trans HR.out.size (Nat.le_refl _), rfl, heap_new _ _⟩
        case o18 =>
          exact fun h => absurd rfl h
        case o19 =>
          refine opGoal_plain rfl rfl (by simp) fun f w' hr hk => ?_
          have d0 : w'.cell? ⟨w.heap.size, 0, none⟩ = some (.slice (some ⟨b, off, none⟩) len cap) := blk_cell (blk_extL B0.out hr (not_row HO.out (by omega))) 0 _ rfl
          have d1 : w'.cell? ⟨w.heap.size + 2, 0, none⟩ = some v := blk_cell (blk_extL B2.out hr (not_row HO.out (by omega))) 0 _ rfl
          have d2 : w'.cell? ⟨b, off + n * 2, none⟩ = some (.string s) := hr.cell (not_row HO.out (by simp; omega)) hs
          have d3 : w'.cell? ⟨b, off + n * 2 + 1, none⟩ = some (.int .i64 m) := hr.cell (not_row HO.out (by simp; omega)) hi'
          have HR := Lib.hid hr
          clear hr
          simp [putD, depsO, depsL, phi, Is, KnowAll, Region.binds, put_some, put_none, KNew, KRow] at hk ⊢
          try simp only [hk]
          go_wp2
          exact onePost_is _ rfl rfl ⟨Ext.refl _, rfl⟩
      case hfar => exact far_cons far_is (far_cons far_is (far_cons far_is (far_cons far_is (far_cons far_is (far_cons far_is (far_cons far_is (far_cons far_is (far_cons far_is (far_cons far_is (far_cons far_is (far_cons far_is (far_cons far_is (far_cons far_is (far_cons far_is (far_cons far_is (far_cons far_is (far_cons (KNew.far fun k hk => (owns_row HO.out k (by simpa using hk)).2) (far_self (far_cons far_is far_nil)))))))))))))))))))
      case hrow => exact row_list v
      case hsp =>
        intro f w' hr
        refine sp_plain rfl rfl (by simp) rfl fun hk => ?_
        simp [putD, depsO, depsL, phi, Is, KNew, KRow, KnowAll, Region.binds, put_some] at hk ⊢
        obtain ⟨e1, b', hb1, e2, hb2⟩ := hk
        rw [e1, e2, HT.out]
        refine wpList_append_own _ rfl _ _ 22 rfl (w.heap.size + 3) 37 i0 _ 2 24 Try.underlying22 hi hz0 hz1 hz2 rfl (by decide) v n _ rfl (owns_ext HO.out hr) ⟨b', 0, none⟩ 1 1 [.string s, .int .i64 (m.tdiv g)] rfl rfl (news_at hb2) (by simp [Value.oneCell']) (by unfold maxLen; omega) (by omega) ?_ ?_
        · have := blk_lt B2.out; have := hr.size; omega
        · intro v' w1 hown hgrow _
          exact wpList_nil ⟨rfl, rfl, hgrow, hown⟩
      case hend =>
        intro f w' hr hk
        simp [putD, phi, Is, KNew, KRow, KnowAll, List.range, List.range.loop, put_some, put_none] at hk ⊢
        obtain ⟨e0, e1, e2, e3, e4, e5, e6, e7, e8, e9, e10, e11, e12, e13, e14, e15, e16, ⟨b', -, e17, -⟩, e18, e19⟩ := hk
        obtain ⟨a', cap', e18'⟩ := owns_slice e18
        rw [e18'] at e18
        have HO2 := Lib.hid e18
        have b0 := blk_extL B0.out hr (not_row HO.out (by omega))
        have b1 := blk_extL B1.out hr (not_row HO.out (by omega))
        have b2 := blk_extL B2.out hr (not_row HO.out (by omega))
        have HE2 := Lib.hid (ext_extL HE.out hr (row_from HO.out (by omega)))
        have d1 : w'.cell? ⟨w.heap.size + 2, 0, none⟩ = some v := blk_cell b2 0 _ rfl
        have d2 : w'.frozen? ⟨w.heap.size + 2, 0, none⟩ = false := blk_free b2 0
        have B0' := Lib.hid b0
        have B1' := Lib.hid b1
        have B2' := Lib.hid b2
        clear hr e18 b0 b1 b2
        go_wp2
        go_roundw
        case rel => exact ⟨n + 1, _, by go_num, by omega, ownsRow_setCell_below HO2.out (by simp) _, HE2.out.set (by simp; omega) _, blk_other B0'.out (by simp; omega) _, blk_other B1'.out (by simp) _, blk_set B2'.out 0 _⟩
        case measure => simp [intOf]; omega
    · obtain ⟨a', cap', e18'⟩ := owns_slice HO.out
      subst e18'
      have d1 := blk_cell B2.out 0 _ rfl
      have d2 := blk_cell B2.out 1 _ rfl
      have d3 := blk_cell B1.out 0 _ rfl
      have d4 := blk_cell B1.out 1 _ rfl
      have d5 := blk_free B1.out 0
      have d6 := blk_free B1.out 1
      have HN : Hid (flatC ((mapC (·.tdiv g) cs).take n) = flatC (mapC (·.tdiv g) cs)) := Lib.hid (by rw [List.take_of_length_le (by rw [mapC_len, HC.out.size]; omega)])
      go_wp2
      refine bodyPost_ret (v := .agg #[.slice a' n cap', .int .i64 c]) (by simp [results, Try.results34, go_sem, set_other (set_same d3) (q := ⟨w.heap.size + 1, 0, none⟩) (p := ⟨w.heap.size + 1, 1, none⟩) (by simp), set_same (set_other d4 (p := ⟨w.heap.size + 1, 0, none⟩) (by simp))]) rfl ?_
      obtain ⟨a2, l2, c2, e, h⟩ := isL_of_row (L := (w.heap.size + 1) :: L) (HN.out ▸ HO.out) ((HU.out.mono (by omega)).cons (by omega))
      cases e
      exact ⟨_, rfl, ⟨_, _, _, rfl, ((h.set (by simp) _).set (by simp) _).tail⟩, (HE.out.set (by simp) _).set (by simp) _⟩

theorem clo_enter {P : Program} {f : FuncId} {fn : Func} {c : Code} (hf : P.funcs[f]? = some fn) (hname : (fn.name == "runtime.NumGoroutine") = false) (hb : fn.body = some c) (args : Array Value) (w : World) :
    (callFunc f args).run P w = .ok (.enter f args) w := by
  have h1 : fn.name ≠ "runtime.NumGoroutine" := by simpa using hname
  simp [callFunc, hf, h1, hb]

set_option maxHeartbeats 1000000 in
theorem linear_divided1 (w : World) (s : ByteArray) (m k : Int) (kb : Nat) (hk0 : w.cell? ⟨kb, 0, none⟩ = some (.int .i64 k)) (hkz : k ≠ 0) (hm0 : -1000000000000 ≤ m) (hm1 : m ≤ 1000000000000) :
    Calls Try.prog 60 #[.agg #[.string s, .int .i64 m], .pointer (some ⟨kb, 0, none⟩)] w fun e w' => e = .returned (.tuple #[.agg #[.string s, .int .i64 (m.tdiv k)], .bool true]) ∧ Ext w w' := by
  have hz : (k == 0) = false := by simpa using hkz
  have hlt := World.block_lt_of_cell? w _ hk0
  obtain ⟨hq3, hq4⟩ := tdiv_bound hm0 hm1 (b := k)
  go_enter Try.func60, Try.ntmps60
  go_wp2
  apply wp_region_ext [some 5, some 6, some 7, some 8, some 9, some 10, some 11, none, some 4] 9 7 [Is _, Is _, Is _, Is _, Is _, Is _, Is _] mixed rfl rfl (by decide) (by kernel_rfl)
  case hop =>
    refine allOps_cons ?o0 (allOps_cons ?o1 (allOps_cons ?o2 (allOps_cons ?o3 (allOps_cons ?o4 (allOps_cons ?o5 (allOps_cons ?o6 allOps_nil))))))
    case o0 =>
      refine opGoal_plain rfl rfl (by simp) fun f w' hr hk => ?_
      have d0 : w'.cell? ⟨w.heap.size, 0, none⟩ = some (.string s) := hr.cell (by simp)
      have d1 : w'.cell? ⟨w.heap.size, 1, none⟩ = some (.int .i64 m) := hr.cell (by simp)
      have d2 : w'.cell? ⟨kb, 0, none⟩ = some (.int .i64 k) := hr.cell (Ext.cell ((Ext.alloc _ _).trans (Ext.alloc _ _)) hk0)
      have HR := Lib.hid hr
      clear hr
      simp [putD, depsO, depsL, phi, Is, KnowAll, Region.binds, put_some, put_none] at hk ⊢
      try simp only [hk]
      go_wp2
      exact onePost_is _ rfl rfl ⟨Ext.refl _, rfl⟩
    case o1 =>
      refine opGoal_plain rfl rfl (by simp) fun f w' hr hk => ?_
      have d0 : w'.cell? ⟨w.heap.size, 0, none⟩ = some (.string s) := hr.cell (by simp)
      have d1 : w'.cell? ⟨w.heap.size, 1, none⟩ = some (.int .i64 m) := hr.cell (by simp)
      have d2 : w'.cell? ⟨kb, 0, none⟩ = some (.int .i64 k) := hr.cell (Ext.cell ((Ext.alloc _ _).trans (Ext.alloc _ _)) hk0)
      have HR := Lib.hid hr
      clear hr
      simp [putD, depsO, depsL, phi, Is, KnowAll, Region.binds, put_some, put_none] at hk ⊢
      try simp only [hk]
      go_wp2
      exact onePost_is _ rfl rfl ⟨Ext.refl _, rfl⟩
    case o2 =>
      refine opGoal_plain rfl rfl (by simp) fun f w' hr hk => ?_
      have d0 : w'.cell? ⟨w.heap.size, 0, none⟩ = some (.string s) := hr.cell (by simp)
      have d1 : w'.cell? ⟨w.heap.size, 1, none⟩ = some (.int .i64 m) := hr.cell (by simp)
      have d2 : w'.cell? ⟨kb, 0, none⟩ = some (.int .i64 k) := hr.cell (Ext.cell ((Ext.alloc _ _).trans (Ext.alloc _ _)) hk0)
      have HR := Lib.hid hr
      clear hr
      simp [putD, depsO, depsL, phi, Is, KnowAll, Region.binds, put_some, put_none] at hk ⊢
      try simp only [hk]
      go_wp2
      exact onePost_is _ rfl rfl ⟨Ext.refl _, rfl⟩
    case o3 =>
      refine opGoal_plain rfl rfl (by simp) fun f w' hr hk => ?_
      have d0 : w'.cell? ⟨w.heap.size, 0, none⟩ = some (.string s) := hr.cell (by simp)
      have d1 : w'.cell? ⟨w.heap.size, 1, none⟩ = some (.int .i64 m) := hr.cell (by simp)
      have d2 : w'.cell? ⟨kb, 0, none⟩ = some (.int .i64 k) := hr.cell (Ext.cell ((Ext.alloc _ _).trans (Ext.alloc _ _)) hk0)
      have HR := Lib.hid hr
      clear hr
      simp [putD, depsO, depsL, phi, Is, KnowAll, Region.binds, put_some, put_none] at hk ⊢
      try simp only [hk]
      go_wp2
      exact onePost_is _ rfl rfl ⟨Ext.refl _, rfl⟩
    case o4 =>
      refine opGoal_plain rfl rfl (by simp) fun f w' hr hk => ?_
      have d0 : w'.cell? ⟨w.heap.size, 0, none⟩ = some (.string s) := hr.cell (by simp)
      have d1 : w'.cell? ⟨w.heap.size, 1, none⟩ = some (.int .i64 m) := hr.cell (by simp)
      have d2 : w'.cell? ⟨kb, 0, none⟩ = some (.int .i64 k) := hr.cell (Ext.cell ((Ext.alloc _ _).trans (Ext.alloc _ _)) hk0)
      have HR := Lib.hid hr
      clear hr
      simp [putD, depsO, depsL, phi, Is, KnowAll, Region.binds, put_some, put_none] at hk ⊢
      try simp only [hk]
      go_wp2
      exact onePost_is _ rfl rfl ⟨Ext.refl _, rfl⟩
    case o5 =>
      refine opGoal_plain rfl rfl (by simp) fun f w' hr hk => ?_
      have d0 : w'.cell? ⟨w.heap.size, 0, none⟩ = some (.string s) := hr.cell (by simp)
      have d1 : w'.cell? ⟨w.heap.size, 1, none⟩ = some (.int .i64 m) := hr.cell (by simp)
      have d2 : w'.cell? ⟨kb, 0, none⟩ = some (.int .i64 k) := hr.cell (Ext.cell ((Ext.alloc _ _).trans (Ext.alloc _ _)) hk0)
      have HR := Lib.hid hr
      clear hr
      simp [putD, depsO, depsL, phi, Is, KnowAll, Region.binds, put_some, put_none] at hk ⊢
      try simp only [hk]
      go_wp2
      exact onePost_is _ rfl rfl ⟨Ext.refl _, rfl⟩
    case o6 =>
      refine opGoal_plain rfl rfl (by simp) fun f w' hr hk => ?_
      have d0 : w'.cell? ⟨w.heap.size, 0, none⟩ = some (.string s) := hr.cell (by simp)
      have d1 : w'.cell? ⟨w.heap.size, 1, none⟩ = some (.int .i64 m) := hr.cell (by simp)
      have d2 : w'.cell? ⟨kb, 0, none⟩ = some (.int .i64 k) := hr.cell (Ext.cell ((Ext.alloc _ _).trans (Ext.alloc _ _)) hk0)
      have HR := Lib.hid hr
      clear hr
      simp [putD, depsO, depsL, phi, Is, KnowAll, Region.binds, put_some, put_none] at hk ⊢
      try simp only [hk]
      go_wp2
      exact onePost_is _ rfl rfl ⟨Ext.refl _, rfl⟩
  case hend =>
    intro f w' hr hk
    simp [putD, phi, Is, KnowAll, List.range, List.range.loop, put_some, put_none] at hk ⊢
    have d3 : w'.cell? ⟨w.heap.size + 1, 0, none⟩ = some (.string ⟨#[]⟩) := hr.cell (by simp)
    have d4 : w'.cell? ⟨w.heap.size + 1, 1, none⟩ = some (.int .i64 0) := hr.cell (by simp)
    have d5 : w'.frozen? ⟨w.heap.size + 1, 0, none⟩ = false := hr.frozen (v := .string ⟨#[]⟩) (by simp) (by simp)
    have d6 : w'.frozen? ⟨w.heap.size + 1, 1, none⟩ = false := hr.frozen (v := .int .i64 0) (by simp) (by simp)
    have HR := Lib.hid (Ext.trans ((Ext.alloc w _).trans (Ext.alloc _ _)) hr)
    clear hr
    go_wp2
    refine bodyPost_ret (v := .tuple #[.agg #[.string s, .int .i64 (m.tdiv k)], .bool true]) (by simp [results, Try.results60, go_sem, set_other (set_same d3) (q := ⟨w.heap.size + 1, 0, none⟩) (p := ⟨w.heap.size + 1, 1, none⟩) (by simp), set_same (set_other d4 (p := ⟨w.heap.size + 1, 0, none⟩) (by simp))]) rfl ?_
    exact ⟨rfl, (HR.out.set (by simp) _).set (by simp) _⟩

set_option maxHeartbeats 1000000 in
theorem linear_divided {L : List Nat} (w : World) (a : Option Addr) (len cap : Nat) (g : Int) (cs : List (ByteArray × Int)) (hc : IsCoefs L w a len cap cs) (hL : Under L w.heap.size) (hm : len ≤ 1000000)
    (hg : g ≠ 0) (hb : ∀ c ∈ cs, -1000000000000 ≤ c.2 ∧ c.2 ≤ 1000000000000) :
    Calls Try.prog 31 #[.slice a len cap, .int .i64 g] w fun e w' => ∃ v, e = .returned v ∧ IsL L w' v (mapC (·.tdiv g) cs) ∧ Ext w w' := by
  have HC := Lib.hid hc
  have HU := Lib.hid hL
  have HB := Lib.hid hb
  have HG := Lib.hid hg
  clear hc hL hb hg
  go_enter Try.func31, Try.ntmps31
  go_wp2_with fail
  have hbx : (w.alloc (Obj.cells #[Value.int IntKind.i64 g] 3)).cell? ⟨w.heap.size, 0, none⟩ = some (.int .i64 g) := by simp
  refine (each_Coef _ a len cap cs 60 #[.pointer (some ⟨w.heap.size, 0, none⟩)] (fun c => (c.2.tdiv g, true)) (HC.out.below (Ext.alloc _ _)) (HU.out.below (Ext.alloc _ _)) hm (clo_enter rfl (by kernel_rfl) rfl) ?_).mono ?_
  · rintro w' ⟨s, m⟩ hmem hx
    exact linear_divided1 w' s m g _ (hx.cell hbx) HG.out (HB.out _ hmem).1 (HB.out _ hmem).2
  rintro e w1 ⟨v, rfl, hv, he⟩
  have HS : Hid (eachS (fun c => (c.2.tdiv g, true)) cs = (mapC (·.tdiv g) cs, true)) := Lib.hid (by simp [eachS, mapC])
  rw [HS.out] at hv ⊢
  obtain ⟨a', l', c', e, h⟩ := hv
  subst e
  have HV := Lib.hid h
  have HE := Lib.hid (Ext.trans (Ext.alloc _ _) he)
  clear h he
  go_wp2
  go_ret
  exact ⟨_, rfl, ⟨_, _, _, rfl, HV.out⟩, HE.out⟩
end Go.Proofs.Ytkghgdkkholieaa
