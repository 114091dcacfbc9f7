/-
  Texts laid together: EvOps3.
-/
import Derived.Test.YtmkoiandfojgmaaGreatZM3
import Derived.Laws.AppendOwn
import Derived.Laws.OwnMore
import Derived.Laws.CopyRow
import Derived.IntWalk
namespace Go.Proofs.YtmkoiandfojgmaaGreat
open Go.RowKit
section
variable {P : Program}
theorem loadVar_sound {C : Cx} {t : TypeId} {sz : Nat} {bb : Bool} {b o : Nat} {cs : List AV} {vs : List Value} {av : AV} (hs : szOf P t = some sz) (ha : aggT P t = some bb) (hx : VRs C cs vs) (hl : ∀ (j : Nat) (v : Value), vs[j]? = some v → C.w.cell? ⟨b, o + j, none⟩ = some v)
    (h : partA bb sz cs = some av) : Has P C (loadVar t ⟨b, o, none⟩) av := by
  unfold partA at h
  cases bb with
  | true =>
    simp only [if_true, Option.map_eq_some_iff] at h
    obtain ⟨ds, h1, rfl⟩ := h
    obtain ⟨h2, h3⟩ := VRs_take hx h1
    have hl' : (vs.take sz).length = sz := by rw [List.length_take]; omega
    have := run_loadCells_list (P := P) C.w ⟨b, o, none⟩ (vs.take sz) (fun j v hj => by
      rw [add_none]
      refine hl j v ?_
      rw [List.getElem?_take] at hj
      split at hj
      · exact hj
      · simp at hj)
    rw [hl'] at this
    refine ⟨.agg (vs.take sz).toArray, by simp [loadVar, run_agg ha, run_siz hs, this], ?_⟩
    simp only [VR]
    exact ⟨_, rfl, h2⟩
  | false =>
    simp only [Bool.false_eq_true, if_false] at h
    obtain ⟨v, h1, h2⟩ := VRs_at hx h
    refine ⟨v, ?_, h2⟩
    have := hl 0 v h1
    simp only [Nat.add_zero] at this
    simp [loadVar, run_agg ha, this]
theorem VRsSplit {C : Cx} : ∀ {a b : List AV} {l : List Value}, VRs C (a ++ b) l → ∃ l1 l2, l = l1 ++ l2 ∧ VRs C a l1 ∧ VRs C b l2
  | [], b, l, h => ⟨[], l, rfl, by simp only [VRs], h⟩
  | x :: a, b, v :: l, h => by
    simp only [List.cons_append, VRs] at h
    obtain ⟨l1, l2, rfl, h1, h2⟩ := VRsSplit (a := a) h.2
    exact ⟨v :: l1, l2, rfl, by simp only [VRs]; exact ⟨h.1, h1⟩, h2⟩
  | _ :: _, _, [], h => by simp only [List.cons_append, VRs] at h
theorem entP {C : Cx} {cells : List AV} {l : List Value} (h : ∃ vs r, l = vs ++ r ∧ VRs C cells vs) : ∃ p, VRs C (cells ++ p) l := by
  obtain ⟨vs, r, rfl, h⟩ := h
  exact ⟨_, VRs_append h (VRs_repl r)⟩
theorem ofEntP {C : Cx} {cells p : List AV} {l : List Value} (h : VRs C (cells ++ p) l) : ∃ vs r, l = vs ++ r ∧ VRs C cells vs := by
  obtain ⟨l1, l2, e, h1, -⟩ := VRsSplit h
  exact ⟨l1, l2, e, h1⟩
theorem overP (p : List AV) : ∀ {cs : List AV} {o : Nat} {vs cs' : List AV}, over cs o vs = some cs' → over (cs ++ p) o vs = some (cs' ++ p)
  | cs, 0, [], cs', h => by
    have : cs = cs' := by cases cs <;> simpa [over] using h
    subst this
    cases (cs ++ p) <;> rfl
  | c :: cs, k + 1, vs, cs', h => by
    simp only [over, Option.map_eq_some_iff] at h
    obtain ⟨x, h, rfl⟩ := h
    simp only [List.cons_append, over, overP p h, Option.map_some]
  | _ :: cs, 0, v :: vs, cs', h => by
    simp only [over, Option.map_eq_some_iff] at h
    obtain ⟨x, h, rfl⟩ := h
    simp only [List.cons_append, over, overP p h, Option.map_some]
  | [], 0, _ :: _, _, h => by simp [over] at h
  | [], _ + 1, _, _, h => by simp [over] at h
theorem takeNP (p : List AV) : ∀ {n : Nat} {cs x : List AV}, takeN n cs = some x → takeN n (cs ++ p) = some x
  | 0, _, _, h => by simpa [takeN] using h
  | n + 1, [], _, h => by simp [takeN] at h
  | n + 1, c :: cs, x, h => by
    simp only [takeN, Option.map_eq_some_iff] at h
    obtain ⟨y, h, rfl⟩ := h
    simp only [List.cons_append, takeN, takeNP p h, Option.map_some]
theorem partAP (p : List AV) {b : Bool} {n : Nat} {cs : List AV} {x : AV} (h : partA b n cs = some x) : partA b n (cs ++ p) = some x := by
  unfold partA at h ⊢
  cases b with
  | true =>
    simp only [if_true, Option.map_eq_some_iff] at h ⊢
    obtain ⟨y, h, rfl⟩ := h
    exact ⟨y, takeNP p h, rfl⟩
  | false =>
    simp only [Bool.false_eq_true, if_false] at h ⊢
    cases cs with
    | nil => simp [nth] at h
    | cons c cs => exact h
theorem rowsAtP (p : List AV) {sz : Nat} : ∀ {n : Nat} {cs : List AV} {es : List (List AV)}, rowsAt sz n cs = some es → rowsAt sz n (cs ++ p) = some es
  | 0, _, _, h => by simpa [rowsAt] using h
  | n + 1, cs, es, h => by
    simp only [rowsAt] at h ⊢
    split at h
    · rename_i e es' h1 h2
      rw [takeNP p h1, List.drop_append, rowsAtP _ h2]; exact h
    · simp at h
theorem entAt_some {S : List Ent} {id ep : Nat} {cs : List AV} (h : entAt S id ep = some cs) : ∃ e, nth S id = some e ∧ e.ep = ep ∧ e.cells = cs := by
  unfold entAt at h
  split at h
  · rename_i e he
    split at h
    · rename_i hep
      split at h
      · simp only [Option.some.injEq] at h; exact ⟨e, he, hep, h⟩
      · simp at h
    · simp at h
  · simp at h
theorem entAt_notM {S : List Ent} {id ep : Nat} {cs : List AV} (h : entAt S id ep = some cs) : notM cs = true := by
  unfold entAt at h
  split at h
  · split at h
    · split at h
      · rename_i hm; simp only [Option.some.injEq] at h; rw [← h]; exact hm
      · simp at h
    · simp at h
  · simp at h
theorem ldA_sound [Globs] {C : Cx} (hsr : SR C) {t : TypeId} {a av : AV} {va : Value} (hx : VR C a va) (h : ldA P t a C.S = some av) : Has P C (Instr.loadAt t va) av := by
  unfold ldA at h
  split at h
  · rename_i sz bb hs ha
    split at h
    · rename_i cs
      simp only [VR] at hx
      obtain ⟨b, o, vs, rfl, hl, hp⟩ := hx
      obtain ⟨v, h1, h2⟩ := loadVar_sound (b := b) (o := o) hs ha (VRs_of_PRs hp) (fun j v hj => (lie_at hl j v hj).1) h
      exact ⟨v, by simpa [Instr.loadAt, Instr.sureAddr] using h1, h2⟩
    · rename_i id ep off
      split at h
      · rename_i cs he
        obtain ⟨e, h1, h2, rfl⟩ := entAt_some he
        simp only [VR] at hx
        obtain ⟨b, rfl, hn, hb⟩ := hx
        obtain rfl := hb e h1 h2
        obtain ⟨-, arr, t', h3, h4⟩ := hsr.entC h1 (entAt_notM he)
        obtain ⟨p, h4⟩ := entP h4
        obtain ⟨v, g1, g2⟩ := loadVar_sound (b := C.φ id) (o := off) hs ha (VRs_drop off h4) (fun j v hj => by
          rw [List.getElem?_drop] at hj
          simp [World.cell?, h3]; simpa using hj) (by rw [List.drop_append]; exact partAP _ h)
        exact ⟨v, by simpa [Instr.loadAt, Instr.sureAddr] using g1, g2⟩
      · simp at h
    · simp at h
  · simp at h
theorem nth_put_same {α : Type} : ∀ {l : List α} {i : Nat} {v x : α}, nth (put l i v) i = some x → x = v
  | _ :: _, 0, _, _, h => by simpa [put, nth] using h.symm
  | _ :: l, i + 1, v, x, h => nth_put_same (l := l) (i := i) (by simpa [put, nth] using h)
  | [], _, _, _, h => by simp [put, nth] at h
theorem nth_put_other {α : Type} : ∀ {l : List α} {i j : Nat} {v : α}, i ≠ j → nth (put l i v) j = nth l j
  | _ :: _, 0, 0, _, h => absurd rfl h
  | _ :: _, 0, j + 1, _, _ => rfl
  | _ :: _, i + 1, 0, _, _ => rfl
  | _ :: l, i + 1, j + 1, v, h => nth_put_other (l := l) (i := i) (j := j) (by omega)
  | [], _, _, _, _ => rfl
theorem nth_some {α : Type} {l : List α} {i : Nat} (h : i < l.length) : ∃ x, nth l i = some x := ⟨l[i], by rw [nth_get]; exact List.getElem?_eq_getElem h⟩
theorem sets_eq : ∀ {us l : List Value} {o : Nat}, o + us.length ≤ l.length → sets l o us = l.take o ++ us ++ l.drop (o + us.length)
  | [], l, o, _ => by simp [sets]
  | u :: us, l, o, h => by
    simp only [sets]
    simp only [List.length_cons] at h
    rw [sets_eq (by simp; omega)]
    have h1 : (l.set o u).take (o + 1) = l.take o ++ [u] := by
      rw [List.take_set, List.take_add_one]
      have : l[o]? = some (l[o]'(by omega)) := List.getElem?_eq_getElem _
      rw [this]
      simp only [Option.toList_some]
      rw [List.set_append_right _ _ (by simp; omega)]
      simp [show min o l.length = o from by omega]
    have h2 : (l.set o u).drop (o + 1 + us.length) = l.drop (o + (us.length + 1)) := by
      rw [List.drop_set_of_lt (by omega)]
      congr 1
      omega
    rw [h1, h2]
    simp
theorem leafs_one {C : Cx} : ∀ {cs : List AV} {vs : List Value}, VRs C cs vs → cs.all leafOk = true → ∀ v ∈ vs, v.oneCell' = true
  | [], [], _, _ => by simp
  | c :: cs, v :: vs, h, hl => by
    simp only [VRs] at h
    simp only [List.all_cons, Bool.and_eq_true] at hl
    intro u hu
    rcases List.mem_cons.1 hu with rfl | hu
    · cases c with
      | prim x => have := h.1; simp only [VR] at this; subst this; exact hl.1
      | bot => simp [leafOk] at hl
      | agg _ => simp [leafOk] at hl
      | tup _ => simp [leafOk] at hl
      | frz _ _ => have := h.1; simp only [VR] at this; obtain ⟨_, _, _, rfl, -⟩ := this; rfl
      | fptr _ => have := h.1; simp only [VR] at this; obtain ⟨_, _, _, rfl, -⟩ := this; rfl
      | ref _ _ _ => have := h.1; simp only [VR] at this; obtain ⟨_, rfl, -⟩ := this; rfl
      | sref _ _ _ _ _ => have := h.1; simp only [VR] at this; obtain ⟨_, _, _, rfl, -⟩ := this; rfl
      | fn _ _ => have := h.1; simp only [VR] at this; obtain ⟨_, rfl, -⟩ := this; rfl
      | bfn _ _ => have := h.1; simp only [VR] at this; obtain ⟨_, rfl, -⟩ := this; rfl
      | ifc _ _ => have := h.1; simp only [VR] at this; obtain ⟨_, rfl, -⟩ := this; rfl
      | mfn _ _ _ => have := h.1; simp only [VR] at this; obtain ⟨_, rfl, -⟩ := this; rfl
      | lit _ _ => have := h.1; simp only [VR] at this; obtain ⟨_, _, rfl, -⟩ := this; rfl
      | mref _ _ => have := h.1; simp only [VR] at this; obtain ⟨_, rfl, -⟩ := this; rfl
      | mset _ => simp [leafOk] at hl
    · exact leafs_one h.2 hl.2 u hu
  | [], _ :: _, h, _ => by simp only [VRs] at h
  | _ :: _, [], h, _ => by simp only [VRs] at h
theorem Le.of_store [Globs] {C : Cx} (hsr : SR C) {id : Nat} {e e' : Ent} {cs cs' : Array Value} {t : TypeId} (he : nth C.S id = some e) (hep : e'.ep = e.ep) (hb : C.w.heap[C.φ id]? = some (.cells cs t (0, 0))) (hsz : cs'.size = cs.size) :
    Le C { C with w := C.w.setRow (C.φ id) cs', S := put C.S id e' } := by
  have hm : ∀ o, C.Mut (C.φ id) o := fun o => .inl ⟨id, nth_lt he, rfl⟩
  refine ⟨rfl, rfl, rfl, by simp, rfl, Nat.le_refl _, ?_, ?_, ?_, ?_, ?_, fun _ k hk => ⟨k, hk, Nat.le_refl _, fun _ => rfl⟩⟩
  · rintro b o - (⟨i, hi, h⟩ | h)
    · exact .inl ⟨i, by simpa [put_len] using hi, h⟩
    · exact .inr h
  · intro b o v hv hn
    have hne : b ≠ C.φ id := fun h => hn (h ▸ hm o)
    have := setRow_other C.w (C.φ id) b cs' hne
    simpa [World.cell?, this] using hv
  · intro b _ hn
    exact setRow_other C.w (C.φ id) b cs' fun h => hn 0 (h ▸ hm 0)
  · intro b d t' fz hd
    by_cases h : b = C.φ id
    · subst h
      rw [hb] at hd
      simp only [Option.some.injEq, Obj.cells.injEq] at hd
      obtain ⟨rfl, rfl, rfl⟩ := hd
      exact ⟨cs', setRow_heap _ _ _ _ _ _ hb, hsz⟩
    · exact ⟨d, by rw [setRow_other _ _ _ _ h]; exact hd, rfl⟩
  · intro i x hx _
    by_cases h : id = i
    · subst h
      have := nth_put_same hx
      subst this
      exact ⟨e, he, hep.symm, rfl⟩
    · rw [nth_put_other h] at hx
      exact ⟨x, hx, rfl, rfl⟩
theorem SR.of_store [Globs] {C : Cx} (hsr : SR C) {id : Nat} {e e' : Ent} {cs cs' : Array Value} {t : TypeId} (he : nth C.S id = some e) (hep : e'.ep = e.ep) (hb : C.w.heap[C.φ id]? = some (.cells cs t (0, 0))) (hsz : cs'.size = cs.size) (hv : ∃ vs r, cs'.toList = vs ++ r ∧ VRs C e'.cells vs) :
    SR { C with w := C.w.setRow (C.φ id) cs', S := put C.S id e' } := by
  have hle := Le.of_store hsr he hep hb hsz
  refine ⟨fun i x hx => ?_, fun i j hi hj h => hsr.ne i j (by simpa [put_len] using hi) (by simpa [put_len] using hj) h, hsr.tok, fun i j o hi hj => hsr.apart i j o (by simpa [put_len] using hi) hj, ?_, fun b o ha => by have := hsr.avlt b o ha; simpa using this, fun i o hi h1 h2 => by have := hsr.tlt i o hi h1 h2; simpa using this, glob_le hsr hle⟩
  · by_cases h : id = i
    · subst h
      have := nth_put_same hx
      subst this
      obtain ⟨vs, r, hv1, hv2⟩ := hv
      exact ⟨by rw [hep]; exact (hsr.ent id e he).1, EntR.mk (VRs_notM hv2) (setRow_heap _ _ _ _ _ _ hb) hv1 (VRs.mono hle _ _ hv2)⟩
    · have hx' : nth C.S i = some x := by rw [← nth_put_other h]; exact hx
      have hne : C.φ i ≠ C.φ id := fun hh => h (hsr.ne i id (nth_lt hx') (nth_lt he) hh).symm
      exact ⟨(hsr.ent i x hx').1, (hsr.ent i x hx').2.move (setRow_other _ _ _ _ hne) (VRs.mono hle _)⟩
  · rintro b o (⟨i, hi, h⟩ | h)
    · exact hsr.own b o (.inl ⟨i, by simpa [put_len] using hi, h⟩)
    · exact hsr.own b o (.inr h)
theorem stA_sound [Globs] {C : Cx} (hsr : SR C) {t : TypeId} {a x : AV} {va vx : Value} {S' : List Ent} (ha : VR C a va) (hx : VR C x vx) (h : stA P t a x C.S = some S') :
    ∃ C', (Instr.storeAt t va vx).run P C.w = .ok () C'.w ∧ Le C C' ∧ SR C' ∧ C'.S = S' ∧ C'.tk = C.tk ∧ C'.n = C.n := by
  unfold stA at h
  split at h
  · rename_i id ep off sz vs hs hc
    split at h
    · rename_i hh
      split at h
      · rename_i cs he
        split at h
        · rename_i cs' ho
          simp only [Option.some.injEq] at h; subst h
          obtain ⟨e, h1, h2, rfl⟩ := entAt_some he
          simp only [VR] at ha
          obtain ⟨b, rfl, hn, hb⟩ := ha
          obtain rfl := hb e h1 h2
          obtain ⟨hlt, arr, t', h3, h4⟩ := hsr.entC h1 (entAt_notM he)
          obtain ⟨p, h4⟩ := entP h4
          obtain ⟨h5, h6⟩ := over_puts (overP p ho)
          have hv := cellsOf_sound hc hx
          have hl1 := VRs_length hv
          have hl4 := VRs_length h4
          simp only [Array.length_toList] at hl1 hl4
          have hfit : off + 0 + vx.cells.toList.length ≤ arr.size := by simp; omega
          have hrun := run_storeCells_at P (C.φ id) off t' vx.cells.toList 0 arr C.w h3 hfit (fun v hv' => leafs_one hv hh.2 v hv')
          have hsets := sets_eq (us := vx.cells.toList) (l := arr.toList) (o := off) (by simp; omega)
          have hnew : VRs C (cs' ++ p) (arr.toList.take off ++ vx.cells.toList ++ arr.toList.drop (off + vx.cells.toList.length)) := by
            rw [← hsets, h5]; exact VRs_puts h4 hv
          refine ⟨{ C with w := C.w.setRow (C.φ id) (arr.toList.take off ++ vx.cells.toList ++ arr.toList.drop (off + vx.cells.toList.length)).toArray, S := put C.S id ⟨ep, cs'⟩ }, ?_, Le.of_store hsr h1 h2.symm h3 ?_, SR.of_store hsr h1 h2.symm h3 ?_ (ofEntP (by simpa using hnew)), rfl, rfl, rfl⟩
          · have e1 : vx.cells.size = sz := by omega
            simp only [Nat.add_zero] at hrun
            simp [Instr.storeAt, Instr.sureAddr, storeVar, run_siz hs, e1, hrun]
          · have := VRs_length hnew
            rw [h5, puts_len] at this
            simp at this ⊢
            omega
          · have := VRs_length hnew
            rw [h5, puts_len] at this
            simp at this ⊢
            omega
        · simp at h
      · simp at h
    · simp at h
  · simp at h
def Cx.more (C : Cx) (arr : Array Value) (t : TypeId) (cs : List AV) : Cx :=
  { C with w := C.w.alloc (.cells arr t), φ := fun i => if i = C.S.length then C.w.heap.size else C.φ i, S := C.S ++ [⟨C.n, cs⟩], n := C.n + 1 }
theorem nth_snoc {α : Type} : ∀ {l : List α} {v x : α} {i : Nat}, nth (l ++ [v]) i = some x → (i = l.length ∧ x = v) ∨ (i < l.length ∧ nth l i = some x)
  | [], v, x, 0, h => .inl ⟨rfl, by simpa [nth] using h.symm⟩
  | [], v, x, i + 1, h => by simp [nth] at h
  | y :: l, v, x, 0, h => .inr ⟨by simp, h⟩
  | y :: l, v, x, i + 1, h => by
    rcases nth_snoc (l := l) (i := i) h with ⟨h1, h2⟩ | ⟨h1, h2⟩
    · exact .inl ⟨by simp [h1], h2⟩
    · exact .inr ⟨by simpa using h1, h2⟩
theorem phi_lt [Globs] {C : Cx} (hsr : SR C) {i : Nat} (h : i < C.S.length) : C.φ i < C.w.heap.size := by
  obtain ⟨e, he⟩ := nth_some h
  exact hsr.lt he
theorem Le.more [Globs] {C : Cx} (hsr : SR C) (arr : Array Value) (t : TypeId) (cs : List AV) : Le C (C.more arr t cs) := by
  have hb : Below C.w.heap.size C.w (C.w.alloc (.cells arr t)) := (Below.refl _ _).alloc (Nat.le_refl _) _
  refine ⟨rfl, rfl, rfl, hb.size, rfl, Nat.le_succ _, ?_, fun b o v hv _ => by rw [show (C.more arr t cs).w = C.w.alloc (.cells arr t) from rfl, Below.cell hb (cell_lt hv)]; exact hv, fun b hlt _ => hb.block b hlt, fun b d t' fz hd => ⟨d, below_shape hb hd, rfl⟩, ?_, fun _ k hk => ⟨k, hk, Nat.le_refl _, fun _ => rfl⟩⟩
  · rintro b o hlt (⟨i, hi, h⟩ | h)
    · simp only [Cx.more] at hi h
      split at h
      · omega
      · exact .inl ⟨i, by simp at hi; omega, h⟩
    · exact .inr h
  · intro i x hx hn
    rcases nth_snoc hx with ⟨h1, h2⟩ | ⟨h1, h2⟩
    · subst h2; simp at hn
    · refine ⟨x, h2, rfl, ?_⟩
      simp only [Cx.more]
      rw [if_neg (by omega)]
theorem SR.moreP [Globs] {C : Cx} (hsr : SR C) {arr : Array Value} {t : TypeId} {cs : List AV} (hv : ∃ vs r, arr.toList = vs ++ r ∧ VRs C cs vs) : SR (C.more arr t cs) := by
  have hle := Le.more hsr arr t cs
  have hb : Below C.w.heap.size C.w (C.w.alloc (.cells arr t)) := (Below.refl _ _).alloc (Nat.le_refl _) _
  refine ⟨fun i x hx => ?_, fun i j hi hj h => ?_, hsr.tok, fun i j o hi hj h h1 h2 => ?_, ?_, fun b o ha => Nat.lt_of_lt_of_le (hsr.avlt b o ha) hb.size, fun i o hi h1 h2 => Nat.lt_of_lt_of_le (hsr.tlt i o hi h1 h2) hb.size, glob_le hsr hle⟩
  · rcases nth_snoc hx with ⟨h1, rfl⟩ | ⟨h1, h2⟩
    · obtain ⟨vs, r, hv1, hv2⟩ := hv
      refine ⟨Nat.lt_succ_self _, EntR.mk (VRs_notM hv2) (t := t) ?_ hv1 (VRs.mono hle _ _ hv2)⟩
      simp only [Cx.more, h1, if_true]
      exact heap_alloc_same _ _
    · refine ⟨Nat.lt_succ_of_lt (hsr.ent i x h2).1, (hsr.ent i x h2).2.move ?_ (VRs.mono hle _)⟩
      simp only [Cx.more]
      rw [if_neg (by omega)]
      exact hb.block _ (hsr.lt h2)
  · simp only [Cx.more, List.length_append, List.length_cons, List.length_nil] at hi hj h
    by_cases hi' : i = C.S.length <;> by_cases hj' : j = C.S.length
    · omega
    · rw [if_pos hi', if_neg hj'] at h
      have := phi_lt hsr (i := j) (by omega); omega
    · rw [if_neg hi', if_pos hj'] at h
      have := phi_lt hsr (i := i) (by omega); omega
    · rw [if_neg hi', if_neg hj'] at h
      exact hsr.ne i j (by omega) (by omega) h
  · simp only [Cx.more, List.length_append, List.length_cons, List.length_nil] at hi h hj h1 h2
    by_cases hi' : i = C.S.length
    · rw [if_pos hi'] at h
      have := hsr.tlt j o hj h1 h2; omega
    · rw [if_neg hi'] at h
      exact hsr.apart i j o (by omega) hj h h1 h2
  · rintro b o (⟨i, hi, h⟩ | h)
    · simp only [Cx.more, List.length_append, List.length_cons, List.length_nil] at hi h
      by_cases hi' : i = C.S.length
      · rw [if_pos hi'] at h
        intro ha
        have := hsr.avlt b o ha; omega
      · rw [if_neg hi'] at h
        exact hsr.own b o (.inl ⟨i, by omega, h⟩)
    · exact hsr.own b o (.inr h)
theorem SR.more [Globs] {C : Cx} (hsr : SR C) {arr : Array Value} {t : TypeId} {cs : List AV} (hv : VRs C cs arr.toList) : SR (C.more arr t cs) := SR.moreP hsr ⟨_, [], by simp, hv⟩
theorem VR_new {C : Cx} {arr : Array Value} {t : TypeId} {cs : List AV} : VR (C.more arr t cs) (.ref C.S.length C.n 0) (.pointer (some ⟨C.w.heap.size, 0, none⟩)) := by
  simp only [VR]
  refine ⟨_, rfl, Nat.lt_succ_self _, fun e he hep => ?_⟩
  simp [Cx.more]
theorem szOf_info {e : TypeId} {sz : Nat} (h : szOf P e = some sz) : ∃ i, P.info? e = some i ∧ i.size = sz := by
  simp only [szOf, Option.map_eq_some_iff] at h
  exact h
theorem run_append_none (w : World) (t e : TypeId) (i : TypeInfo) (ty : TypeId) (ht : P.underlying t = some (.slice e)) (hi : P.info? e = some i) (base a : Option Addr) (n cap c : Nat) (h : n ≤ cap) :
    (Builtin.append_ #[t, t] ty #[.slice base n cap, .slice a 0 c]).run P w = .ok (.slice base n cap) w := by
  cases base <;> cases a <;> simp [Builtin.append_, run_und ht, Go.sizeOf, typeInfo, hi, Builtin.lenOf, Builtin.firstCells, loadCells, loadCellsFrom, h, storeCells]
theorem run_append_room' (w : World) (t ty e : TypeId) (i : TypeInfo) (ht : P.underlying t = some (.slice e)) (hi : P.info? e = some i)
    (g sLen sCap : Nat) (t' : TypeId) (cur : Array Value) (hg : w.heap[g]? = some (.cells cur t' (0, 0)))
    (a : Addr) (m c : Nat) (news : List Value) (hl : news.length = m * i.size) (hnews : ∀ (j : Nat) u, news[j]? = some u → w.cell? (a.add j) = some u) (h1 : ∀ u ∈ news, u.oneCell' = true)
    (hroom : sLen + m ≤ sCap) (hfit : sLen * i.size + news.length ≤ cur.size) :
    (Builtin.append_ #[t, t] ty #[.slice (some ⟨g, 0, none⟩) sLen sCap, .slice (some a) m c]).run P w =
      .ok (.slice (some ⟨g, 0, none⟩) (sLen + m) sCap) (w.setRow g (cur.toList.take (sLen * i.size) ++ news ++ cur.toList.drop (sLen * i.size + news.length)).toArray) := by
  have hf := run_firstCells_some (P := P) w i.size m a m c news hl hnews
  have hst := run_storeCells_at P g (sLen * i.size) t' news 0 cur w hg (by simpa using hfit) h1
  simp only [Nat.add_zero] at hst
  simp [Builtin.append_, run_und ht, Go.sizeOf, typeInfo, hi, Builtin.lenOf, hroom, hf, add_none, hst]
theorem PR_one {w : World} {A : Nat → Nat → Prop} {c : AV} {v : Value} (h : PR w A c v) : v.oneCell' = true := by
  unfold PR at h
  split at h
  · rw [h.1]; exact h.2
  · obtain ⟨_, _, _, rfl, -⟩ := h; rfl
  · obtain ⟨_, _, _, rfl, -⟩ := h; rfl
  · rw [h]; rfl
  · exact h.elim
theorem PRs_one {w : World} {A : Nat → Nat → Prop} : ∀ {cs : List AV} {vs : List Value}, PRs w A cs vs → ∀ v ∈ vs, v.oneCell' = true
  | [], [], _ => by simp
  | c :: cs, v :: vs, h => by
    simp only [PRs] at h
    intro u hu
    rcases List.mem_cons.1 hu with rfl | hu
    · exact PR_one h.1
    · exact PRs_one h.2 u hu
  | [], _ :: _, h => by simp only [PRs] at h
  | _ :: _, [], h => by simp only [PRs] at h
def Cx.tok (C : Cx) (w : World) (c : Cap) (x : Nat × Nat × Nat) : Cx :=
  match c with
  | .tok id ep _ => { C with w := w, tk := put C.tk id (ep + 1), ψ := fun i => if i = id then x else C.ψ i }
  | _ => { C with w := w, tk := C.tk ++ [0], ψ := fun i => if i = C.tk.length then x else C.ψ i }
def tokId (C : Cx) (c : Cap) : Nat := match c with | .tok id _ _ => id | _ => C.tk.length
theorem tok_eq {C : Cx} {w : World} {c : Cap} {x : Nat × Nat × Nat} {sz : Nat} (h : okCap C.tk c sz = true) : (C.tok w c x).w = w ∧ (C.tok w c x).av = C.av ∧ (C.tok w c x).φ = C.φ ∧ (C.tok w c x).S = C.S ∧ (C.tok w c x).n = C.n ∧ (C.tok w c x).tk = capPut C.tk c ∧
    (C.tok w c x).ψ = (fun i => if i = tokId C c then x else C.ψ i) ∧ C.tk.length ≤ (C.tok w c x).tk.length ∧ tokId C c < (C.tok w c x).tk.length ∧ (∀ i, i < (C.tok w c x).tk.length → i = tokId C c ∨ i < C.tk.length) ∧
    (∀ i k, nth C.tk i = some k → ∃ k', nth (C.tok w c x).tk i = some k' ∧ k ≤ k' ∧ (k' = k → i ≠ tokId C c)) := by
  cases c with
  | unk => simp [okCap] at h
  | tight =>
    refine ⟨rfl, rfl, rfl, rfl, rfl, rfl, rfl, by simp [Cx.tok], by simp [Cx.tok, tokId], fun i hi => by simp [Cx.tok] at hi; simp [tokId]; omega, fun i k hk => ?_⟩
    have hlt := nth_lt hk
    refine ⟨k, ?_, Nat.le_refl _, fun _ => by simp [tokId]; omega⟩
    simp only [Cx.tok]
    rw [nth_get] at hk ⊢
    rw [List.getElem?_append_left hlt]; exact hk
  | nilc =>
    refine ⟨rfl, rfl, rfl, rfl, rfl, rfl, rfl, by simp [Cx.tok], by simp [Cx.tok, tokId], fun i hi => by simp [Cx.tok] at hi; simp [tokId]; omega, fun i k hk => ?_⟩
    have hlt := nth_lt hk
    refine ⟨k, ?_, Nat.le_refl _, fun _ => by simp [tokId]; omega⟩
    simp only [Cx.tok]
    rw [nth_get] at hk ⊢
    rw [List.getElem?_append_left hlt]; exact hk
  | nl => simp [okCap] at h
  | nn => simp [okCap] at h
  | tok id ep s =>
    simp only [okCap, Bool.and_eq_true, beq_iff_eq] at h
    refine ⟨rfl, rfl, rfl, rfl, rfl, rfl, rfl, by simp [Cx.tok, put_len], by simpa [Cx.tok, tokId, put_len] using nth_lt h.2, fun i hi => by simp [Cx.tok, put_len] at hi; exact .inr hi, fun i k hk => ?_⟩
    by_cases hi : id = i
    · subst hi
      rw [h.2] at hk; simp only [Option.some.injEq] at hk; subst hk
      refine ⟨ep + 1, ?_, by omega, fun h => by omega⟩
      simp only [Cx.tok]
      obtain ⟨x, hx⟩ := nth_some (l := put C.tk id (ep + 1)) (i := id) (by rw [put_len]; exact nth_lt h.2)
      rw [hx, nth_put_same hx]
    · refine ⟨k, ?_, Nat.le_refl _, fun _ => by simp [tokId]; omega⟩
      simp only [Cx.tok]
      rw [nth_put_other hi]; exact hk
theorem capR_new {C : Cx} {w : World} {c : Cap} {b lo hi sz len cap : Nat} {a : Option Addr} (h : okCap C.tk c sz = true)
    (hc : cap = len ∨ ∃ cs t, a = some ⟨b, 0, none⟩ ∧ (b, lo, hi) = (b, len * sz, cap * sz) ∧ w.heap[b]? = some (.cells cs t (0, 0)) ∧ cap * sz ≤ cs.size) : CapR (C.tok w c (b, lo, hi)) (capNew C.tk c sz) a len cap := by
  cases c with
  | unk => simp [okCap] at h
  | tight =>
    refine ⟨0, ?_, Nat.le_refl _, fun _ => ?_⟩
    · simp only [Cx.tok, nth_get]; simp
    · rcases hc with hc | ⟨cs, t, ha, hp, hb, hl⟩
      · exact .inl hc
      · exact .inr ⟨b, cs, t, ha, by simp only [Cx.tok, if_true]; exact hp, hb, hl⟩
  | nilc =>
    refine ⟨0, ?_, Nat.le_refl _, fun _ => ?_⟩
    · simp only [Cx.tok, nth_get]; simp
    · rcases hc with hc | ⟨cs, t, ha, hp, hb, hl⟩
      · exact .inl hc
      · exact .inr ⟨b, cs, t, ha, by simp only [Cx.tok, if_true]; exact hp, hb, hl⟩
  | nl => simp [okCap] at h
  | nn => simp [okCap] at h
  | tok id ep s =>
    simp only [okCap, Bool.and_eq_true, beq_iff_eq] at h
    refine ⟨ep + 1, ?_, Nat.le_refl _, fun _ => ?_⟩
    · simp only [Cx.tok]
      obtain ⟨x, hx⟩ := nth_some (l := put C.tk id (ep + 1)) (i := id) (by rw [put_len]; exact nth_lt h.2)
      rw [hx, nth_put_same hx]
    · rcases hc with hc | ⟨cs, t, ha, hp, hb, hl⟩
      · exact .inl hc
      · exact .inr ⟨b, cs, t, ha, by simp only [Cx.tok, if_true]; exact hp, hb, hl⟩
def NewTok (C : Cx) (c : Cap) (b lo hi : Nat) : Prop := hi ≤ lo ∨ C.w.heap.size ≤ b ∨ (∃ id ep s, c = .tok id ep s ∧ (C.ψ id).1 = b ∧ (C.ψ id).2.1 ≤ lo ∧ hi ≤ (C.ψ id).2.2)
theorem Mut_tok {C : Cx} {w : World} {c : Cap} {b lo hi sz : Nat} (h : okCap C.tk c sz = true) (hn : NewTok C c b lo hi) {x o : Nat} (hm : (C.tok w c (b, lo, hi)).Mut x o) : C.Mut x o ∨ (x = b ∧ lo ≤ o ∧ o < hi ∧ C.w.heap.size ≤ b) := by
  obtain ⟨e1, e2, e3, e4, e5, e6, e7, e8, e9, e10, e11⟩ := tok_eq (w := w) (x := (b, lo, hi)) h
  rcases hm with ⟨i, hi', hx⟩ | ⟨i, hi', h1, h2, h3⟩
  · exact .inl (.inl ⟨i, by rwa [e4] at hi', by rwa [e3] at hx⟩)
  · rw [e7] at h1 h2 h3
    dsimp only at h1 h2 h3
    by_cases hid : i = tokId C c
    · rw [if_pos hid] at h1 h2 h3
      simp only at h1 h2 h3
      rcases hn with hn | hn | ⟨id, ep, s, rfl, g1, g2, g3⟩
      · omega
      · exact .inr ⟨h1.symm, h2, h3, hn⟩
      · refine .inl (.inr ⟨id, ?_, by rw [g1, h1], by omega, by omega⟩)
        simp only [okCap, Bool.and_eq_true, beq_iff_eq] at h
        exact nth_lt h.2
    · rw [if_neg hid] at h1 h2 h3
      refine .inl (.inr ⟨i, ?_, h1, h2, h3⟩)
      rcases e10 i hi' with hh | hh
      · exact absurd hh hid
      · exact hh
theorem Le.of_tok {C : Cx} {w : World} {c : Cap} {b lo hi sz : Nat} (h : okCap C.tk c sz = true) (hn : NewTok C c b lo hi) (hos : w.os = C.w.os) (htape : w.tape = C.w.tape) (hout : w.output = C.w.output) (hsize : C.w.heap.size ≤ w.heap.size)
    (hcell : ∀ x o v, C.w.cell? ⟨x, o, none⟩ = some v → ¬ C.Mut x o → w.cell? ⟨x, o, none⟩ = some v) (hkeep : ∀ x, x < C.w.heap.size → (∀ o, ¬ C.Mut x o) → w.heap[x]? = C.w.heap[x]?)
    (hshape : ∀ (b : Nat) (cs : Array Value) (t : TypeId) (fz : Nat × Nat), C.w.heap[b]? = some (Obj.cells cs t fz) → ∃ cs' : Array Value, w.heap[b]? = some (Obj.cells cs' t fz) ∧ cs'.size = cs.size) : Le C (C.tok w c (b, lo, hi)) := by
  obtain ⟨e1, e2, e3, e4, e5, e6, e7, e8, e9, e10, e11⟩ := tok_eq (w := w) (x := (b, lo, hi)) h
  refine ⟨by rw [e1, hos], by rw [e1, htape], by rw [e1, hout], by rw [e1]; exact hsize, e2, by rw [e5]; exact Nat.le_refl _, fun x o hlt hm => ?_, by rw [e1]; exact hcell, by rw [e1]; exact hkeep, by rw [e1]; exact hshape, fun i x hx _ => ⟨x, by rwa [e4] at hx, rfl, by rw [e3]⟩, fun i k hk => ?_⟩
  · rcases Mut_tok h hn hm with h' | ⟨rfl, -, -, h'⟩
    · exact h'
    · omega
  · obtain ⟨k', g1, g2, g3⟩ := e11 i k hk
    exact ⟨k', g1, g2, fun e => by rw [e7]; simp only; rw [if_neg (g3 e)]⟩
theorem SR.of_tok [Globs] {C : Cx} (hsr : SR C) {w : World} {c : Cap} {b lo hi sz : Nat} (h : okCap C.tk c sz = true) (hn : NewTok C c b lo hi) (hlt : lo < hi → b < w.heap.size) (hle : Le C (C.tok w c (b, lo, hi)))
    (hblk : ∀ i, i < C.S.length → w.heap[C.φ i]? = C.w.heap[C.φ i]?) : SR (C.tok w c (b, lo, hi)) := by
  obtain ⟨e1, e2, e3, e4, e5, e6, e7, e8, e9, e10, e11⟩ := tok_eq (w := w) (x := (b, lo, hi)) h
  have old : ∀ i, i < (C.tok w c (b, lo, hi)).tk.length → i ≠ tokId C c → i < C.tk.length := fun i hi' hne => (e10 i hi').resolve_left hne
  -- the new token's cells are no other's
  have key : ∀ o, lo ≤ o → o < hi → (∀ j, j < C.tk.length → j ≠ tokId C c → (C.ψ j).1 = b → (C.ψ j).2.1 ≤ o → o < (C.ψ j).2.2 → False) ∧ (∀ i, i < C.S.length → C.φ i = b → False) ∧ ¬ C.av b o := by
    intro o h1 h2
    rcases hn with hn | hn | ⟨id, ep, s, rfl, g1, g2, g3⟩
    · omega
    · refine ⟨fun j hj _ hb k1 k2 => ?_, fun i hi' hb => ?_, fun ha => ?_⟩
      · have := hsr.tlt j o hj k1 k2; omega
      · have := phi_lt hsr hi'; omega
      · have := hsr.avlt b o ha; omega
    · simp only [okCap, Bool.and_eq_true, beq_iff_eq] at h
      have hid := nth_lt h.2
      refine ⟨fun j hj hne hb k1 k2 => hne (hsr.tok j id o hj hid (by rw [hb, g1]) k1 k2 (by omega) (by omega)), fun i hi' hb => hsr.apart i id o hi' hid (by rw [hb, g1]) (by omega) (by omega), hsr.own b o (.inr ⟨id, hid, g1, by omega, by omega⟩)⟩
  refine ⟨fun i x hx => ?_, fun i j hi' hj hh => ?_, fun i j o hi' hj hh h1 h2 h3 h4 => ?_, fun i j o hi' hj hh h1 h2 => ?_, fun x o hm => ?_, fun x o ha => ?_, fun i o hi' h1 h2 => ?_, glob_le hsr hle⟩
  · rw [e4] at hx
    exact ⟨by rw [e5]; exact (hsr.ent i x hx).1, (hsr.ent i x hx).2.move (by rw [e1, e3, hblk i (nth_lt hx)]) (VRs.mono hle _)⟩
  · rw [e4] at hi' hj; rw [e3] at hh
    exact hsr.ne i j hi' hj hh
  · rw [e7] at hh h1 h2 h3 h4
    simp only at hh h1 h2 h3 h4
    by_cases hit : i = tokId C c <;> by_cases hjt : j = tokId C c
    · rw [hit, hjt]
    · rw [if_pos hit] at hh h1 h2; rw [if_neg hjt] at hh h3 h4
      simp only at hh h1 h2
      exact ((key o h1 h2).1 j (old j hj hjt) hjt hh.symm h3 h4).elim
    · rw [if_neg hit] at hh h1 h2; rw [if_pos hjt] at hh h3 h4
      simp only at hh h3 h4
      exact ((key o h3 h4).1 i (old i hi' hit) hit hh h1 h2).elim
    · rw [if_neg hit] at hh h1 h2; rw [if_neg hjt] at hh h3 h4
      exact hsr.tok i j o (old i hi' hit) (old j hj hjt) hh h1 h2 h3 h4
  · rw [e4] at hi'; rw [e3, e7] at hh; rw [e7] at h1 h2
    simp only at hh h1 h2
    by_cases hjt : j = tokId C c
    · rw [if_pos hjt] at hh h1 h2
      simp only at hh h1 h2
      exact (key o h1 h2).2.1 i hi' hh
    · rw [if_neg hjt] at hh h1 h2
      exact hsr.apart i j o hi' (old j hj hjt) hh h1 h2
  · rw [e2]
    rcases Mut_tok h hn hm with h' | ⟨rfl, h1, h2, h3⟩
    · exact hsr.own x o h'
    · exact (key o h1 h2).2.2
  · rw [e2] at ha; rw [e1]
    have := hsr.avlt x o ha
    have := hle.size
    rw [e1] at this
    omega
  · rw [e7] at h1 h2 ⊢; rw [e1]
    simp only at h1 h2 ⊢
    by_cases hit : i = tokId C c
    · rw [if_pos hit] at h1 h2 ⊢
      exact hlt (by simp only at h1 h2; omega)
    · rw [if_neg hit] at h1 h2 ⊢
      have h3 := hsr.tlt i o (old i hi' hit) h1 h2
      have h4 := hle.size
      rw [e1] at h4
      omega
theorem apT_info {t : TypeId} {sz : Nat} (h : apT P t = some sz) : ∃ e i z, P.underlying t = some (.slice e) ∧ P.info? e = some i ∧ i.zero = some z ∧ i.size = sz ∧ 0 < sz ∧ z.cells.size = sz ∧ i.bytes ≤ 1048576 ∧ (sz = 3 → i.bytes ≤ 40) := by
  unfold apT at h
  split at h
  · rename_i e he
    split at h
    · rename_i s z i hs hz hi
      split at h
      · rename_i hh
        simp only [Option.some.injEq] at h; subst h
        simp only [szOf, hi, Option.map_some, Option.some.injEq] at hs
        simp only [zeroOf, hi, Option.bind_some, Option.map_eq_some_iff] at hz
        obtain ⟨v, hv, rfl⟩ := hz
        exact ⟨e, i, v, elemOf_und he, hi, hv, hs, by omega, by simpa using hh.1, hh.2.1, fun e => hh.2.2 (by omega)⟩
      · simp at h
    · simp at h
  · simp at h
theorem len_rows {sz : Nat} : ∀ {es : List (List AV)}, rowsOk sz es = true → (∀ e ∈ es, e.length = sz) := by
  intro es h e he
  simp only [rowsOk, List.all_eq_true, beq_iff_eq] at h
  exact h e he
def Src (C : Cx) (ys : List (List AV)) (vy : Value) : Prop := ∃ a m cap, vy = .slice a m cap ∧ ys.length = m ∧ (m = 0 ∨ ∃ b o news, a = some ⟨b, o, none⟩ ∧ PRs C.w C.Avoid ys.flatten news ∧ ∀ (j : Nat) u, news[j]? = some u → C.w.cell? ⟨b, o + j, none⟩ = some u)
theorem flat_len {sz : Nat} : ∀ {l : List (List AV)}, (∀ e ∈ l, e.length = sz) → l.flatten.length = l.length * sz
  | [], _ => by simp
  | e :: l, h => by
    rw [List.flatten_cons, List.length_append, h e (by simp), flat_len (l := l) fun x hx => h x (by simp [hx]), List.length_cons, Nat.succ_mul]; omega
theorem apG_sound [Globs] {C : Cx} (hsr : SR C) {t ty : TypeId} {x y av : AV} {vx vy : Value} {tk' : List Nat} {ys0 : List (List AV)} {c20 : Cap} (hx : VR C x vx) (hy' : y = .frz ys0 c20) (hsrc : Src C ys0 vy) (h : apA P t x y C.tk = some (av, tk')) :
    ∃ v C', (Builtin.append_ #[t, t] ty #[vx, vy]).run P C.w = .ok v C'.w ∧ Le C C' ∧ SR C' ∧ C'.S = C.S ∧ C'.tk = tk' ∧ C'.n = C.n ∧ VR C' av v := by
  unfold apA at h
  split at h
  · rename_i es c ys c2 sz hT
    simp only [AV.frz.injEq] at hy'
    obtain ⟨rfl, rfl⟩ := hy'
    split at h
    · rename_i hh
      obtain ⟨hok, hre, hry, hroom⟩ := hh
      simp only [Option.some.injEq, Prod.mk.injEq] at h
      obtain ⟨rfl, rfl⟩ := h
      obtain ⟨e, i, z, hu, hi, hz, hsz, hpos, hzs, hby, hb40⟩ := apT_info hT
      simp only [VR] at hx
      obtain ⟨a, len, cap, rfl, hlen, hcap, hC, hE⟩ := hx
      obtain ⟨a2, m, cap2, rfl, hm, hY⟩ := hsrc
      simp only [roomA, Bool.or_eq_true, Bool.and_eq_true, beq_iff_eq, decide_eq_true_eq] at hroom
      -- the elder cells
      have hold : ∃ olds : List Value, olds.length = len * sz ∧ PRs C.w C.Avoid es.flatten olds ∧ (olds = [] ∨ ∃ b o, a = some ⟨b, o, none⟩ ∧ Lie C.w C.Avoid b o olds) := by
        rcases hE with rfl | ⟨b, o, s', rfl, hr⟩
        · exact ⟨[], by simp at hlen; simp [← hlen], by simp [PRs], .inl rfl⟩
        · by_cases hne : es = []
          · subst hne; exact ⟨[], by simp at hlen; simp [← hlen], by simp [PRs], .inl rfl⟩
          · have := PRows_sz hr hre hne
            subst this
            obtain ⟨l, g1, g2, g3⟩ := PRows_unlay hr
            exact ⟨l, by rw [g1, hlen], g2, .inr ⟨b, o, rfl, g3⟩⟩
      obtain ⟨olds, ho1, ho2, ho3⟩ := hold
      by_cases hm0 : m = 0
      · -- nothing to append
        subst hm0
        have hys : ys = [] := List.eq_nil_of_length_eq_zero hm
        subst hys
        have hrun := run_append_none (P := P) C.w t e i ty hu hi a a2 len cap cap2 hcap
        obtain ⟨b, lo, hi', hn, hc⟩ : ∃ b lo hi', NewTok C c b lo hi' ∧ (lo < hi' → b < C.w.heap.size) ∧ (cap = len ∨ ∃ cs t, a = some ⟨b, 0, none⟩ ∧ (b, lo, hi') = (b, len * sz, cap * sz) ∧ C.w.heap[b]? = some (.cells cs t (0, 0)) ∧ cap * sz ≤ cs.size) := by
          cases c with
          | unk => simp [okCap] at hok
          | tight => exact ⟨0, 0, 0, .inl (Nat.le_refl _), by omega, .inl hC⟩
          | nilc => exact ⟨0, 0, 0, .inl (Nat.le_refl _), by omega, .inl hC.2⟩
          | nl => simp [okCap] at hok
          | nn => simp [okCap] at hok
          | tok id ep s =>
            simp only [okCap, Bool.and_eq_true, beq_iff_eq] at hok
            obtain ⟨rfl, hok⟩ := hok
            obtain ⟨k, h1, h2, h3⟩ := hC
            rw [hok] at h1; simp only [Option.some.injEq] at h1; subst h1
            rcases h3 rfl with h3 | ⟨b, cs, t', g1, g2, g3, g4⟩
            · exact ⟨0, 0, 0, .inl (Nat.le_refl _), by omega, .inl h3⟩
            · exact ⟨b, len * s, cap * s, .inr (.inr ⟨id, ep, s, rfl, by rw [g2], by rw [g2]; exact Nat.le_refl _, by rw [g2]; exact Nat.le_refl _⟩), fun _ => (Array.getElem?_eq_some_iff.1 g3).1, .inr ⟨cs, t', g1, rfl, g3, g4⟩⟩
        have hle : Le C (C.tok C.w c (b, lo, hi')) := Le.of_tok hok hn rfl rfl rfl (Nat.le_refl _) (fun _ _ _ h _ => h) (fun _ _ _ => rfl) (fun _ cs _ _ h => ⟨cs, h, rfl⟩)
        obtain ⟨e1, e2, e3, e4, e5, e6, -⟩ := tok_eq (w := C.w) (x := (b, lo, hi')) hok
        refine ⟨.slice a len cap, C.tok C.w c (b, lo, hi'), by rw [e1]; exact hrun, hle, SR.of_tok hsr hok hn hc.1 hle (fun _ _ => rfl), e4, e6, e5, ?_⟩
        simp only [VR, List.append_nil]
        refine ⟨a, len, cap, rfl, hlen, hcap, capR_new hok hc.2, hE.imp id ?_⟩
        rintro ⟨b, o, s', rfl, hr⟩
        exact ⟨b, o, s', rfl, PRows.stays hle.stays _ _ _ _ hr⟩
      · -- the new cells
        obtain ⟨b2, o2, news, rfl, hn2, hncell0⟩ := hY.resolve_left hm0
        have hn1 : news.length = m * sz := by rw [← PRs_length hn2, flat_len (len_rows hry), hm]
        have hone := PRs_one hn2
        have hncell : ∀ (j : Nat) u, news[j]? = some u → C.w.cell? (Addr.add ⟨b2, o2, none⟩ j) = some u := fun j u hj => by rw [add_none]; exact hncell0 j u hj
        have hrows : ∀ e ∈ es ++ ys, e.length = sz := fun x hx => by
          rcases List.mem_append.1 hx with hx | hx
          · exact len_rows hre x hx
          · exact len_rows hry x hx
        by_cases hplace : (∃ id ep s b cs t', c = .tok id ep s ∧ nth C.tk id = some ep ∧ s = sz ∧ a = some ⟨b, 0, none⟩ ∧ C.ψ id = (b, len * sz, cap * sz) ∧ C.w.heap[b]? = some (.cells cs t' (0, 0)) ∧ cap * sz ≤ cs.size) ∧ len + m ≤ cap
        · -- in place
          obtain ⟨⟨id, ep, s, b, arr, t', rfl, hid, rfl, rfl, hψ, hb, hfit⟩, hroom'⟩ := hplace
          have hmul : (len + m) * s ≤ cap * s := Nat.mul_le_mul_right _ hroom'
          have hadd : (len + m) * s = len * s + m * s := Nat.add_mul _ _ _
          have hms : 0 < m * s := Nat.mul_pos (by omega) hpos
          have hrun := run_append_room' (P := P) C.w t ty e i hu hi b len cap t' arr hb ⟨b2, o2, none⟩ m cap2 news (by rw [hsz]; exact hn1) hncell hone hroom' (by rw [hsz, hn1]; omega)
          rw [hsz] at hrun
          generalize hA : (arr.toList.take (len * s) ++ news ++ arr.toList.drop (len * s + news.length)).toArray = arr' at hrun
          have hsize' : arr'.size = arr.size := by rw [← hA]; simp; omega
          have hget : ∀ o, (o < len * s ∨ (len + m) * s ≤ o) → arr'[o]? = arr[o]? := by
            intro o ho
            rw [← hA]
            simp only [List.getElem?_toArray]
            rcases ho with ho | ho
            · rw [List.append_assoc, List.getElem?_append_left (by simp; omega), List.getElem?_take_of_lt ho]; simp
            · rw [List.getElem?_append_right (by simp; omega), List.getElem?_drop, ← Array.getElem?_toList]
              congr 1
              simp
              omega
          have hlt : b < C.w.heap.size := (Array.getElem?_eq_some_iff.1 hb).1
          have hidl := nth_lt hid
          have hmut : ∀ o, len * s ≤ o → o < cap * s → C.Mut b o := fun o h1 h2 => .inr ⟨id, hidl, by rw [hψ], by rw [hψ]; exact h1, by rw [hψ]; exact h2⟩
          have hn : NewTok C (.tok id ep s) b ((len + m) * s) (cap * s) := .inr (.inr ⟨id, ep, s, rfl, by rw [hψ], by rw [hψ]; simp only; omega, by rw [hψ]; exact Nat.le_refl _⟩)
          have hle : Le C (C.tok (C.w.setRow b arr') (.tok id ep s) (b, (len + m) * s, cap * s)) := by
            refine Le.of_tok hok hn rfl rfl rfl (by simp) ?_ ?_ ?_
            · intro x o v hv hnm
              by_cases hxb : x = b
              · subst hxb
                have : o < len * s ∨ (len + m) * s ≤ o := by
                  rcases Nat.lt_or_ge o (len * s) with h | h
                  · exact .inl h
                  · right
                    rcases Nat.lt_or_ge o (cap * s) with h' | h'
                    · exact absurd (hmut o h h') hnm
                    · omega
                have h1 := setRow_heap C.w x arr arr' t' (0, 0) hb
                simp only [World.cell?, hb] at hv
                simp only [World.cell?, h1, hget o this]
                exact hv
              · simpa [World.cell?, setRow_other C.w b x arr' hxb] using hv
            · intro x _ hnm
              refine setRow_other C.w b x arr' fun h => hnm (len * s) (h ▸ hmut _ (Nat.le_refl _) (by omega))
            · intro x d t'' fz hd
              by_cases hxb : x = b
              · subst hxb
                rw [hb] at hd
                simp only [Option.some.injEq, Obj.cells.injEq] at hd
                obtain ⟨rfl, rfl, rfl⟩ := hd
                exact ⟨arr', setRow_heap _ _ _ _ _ _ hb, hsize'⟩
              · exact ⟨d, by rw [setRow_other _ _ _ _ hxb]; exact hd, rfl⟩
          obtain ⟨e1, e2, e3, e4, e5, e6, e7, e8, e9, e10, e11⟩ := tok_eq (w := C.w.setRow b arr') (x := (b, (len + m) * s, cap * s)) hok
          have hsr' := SR.of_tok hsr hok hn (fun _ => by simpa using hlt) hle (fun i hi => setRow_other _ _ _ _ fun h => hsr.apart i id (len * s) hi hidl (by rw [hψ]; exact h) (by rw [hψ]; exact Nat.le_refl _) (by rw [hψ]; simp only; omega))
          refine ⟨.slice (some ⟨b, 0, none⟩) (len + m) cap, _, by rw [e1]; exact hrun, hle, hsr', e4, e6, e5, ?_⟩
          have hhb : (C.w.setRow b arr').heap[b]? = some (.cells arr' t' (0, 0)) := setRow_heap _ _ _ _ _ _ hb
          simp only [VR]
          refine ⟨_, len + m, cap, rfl, by simp; omega, hroom', capR_new hok (.inr ⟨arr', t', rfl, rfl, hhb, by omega⟩), .inr ⟨b, 0, s, rfl, ?_⟩⟩
          have hst := hle.stays
          refine PRows_lay (l := olds ++ news) hrows (by rw [List.flatten_append]; exact PRs_append (PRs.stays hst _ _ ho2) (PRs.stays hst _ _ hn2)) (lie_of fun j v hj => ?_)
          rw [Nat.zero_add]
          rcases Nat.lt_or_ge j olds.length with hjo | hjo
          · rw [List.getElem?_append_left hjo] at hj
            rcases ho3 with rfl | ⟨b', o', ha, hl⟩
            · simp at hjo
            · simp only [Option.some.injEq, Addr.mk.injEq, and_true] at ha
              obtain ⟨rfl, rfl⟩ := ha
              have := lie_at (hl.stays hst) j v hj
              simpa using this
          · rw [List.getElem?_append_right hjo] at hj
            have hjn := (List.getElem?_eq_some_iff.1 hj).1
            have h1 : len * s ≤ j := by omega
            have h2 : j < (len + m) * s := by omega
            constructor
            · rw [e1]
              simp only [World.cell?, hhb]
              have : arr'[j]? = some v := by
                rw [← hA]
                simp only [List.getElem?_toArray]
                rw [List.getElem?_append_left (by simp; omega), List.getElem?_append_right (by simp; omega)]
                rw [← hj]; congr 1; simp; omega
              simpa using this
            · rintro (hav | ⟨k, hk, hφ⟩ | ⟨k, hk, g1, g2, g3⟩)
              · rw [e2] at hav
                exact hsr.own b j (hmut j h1 (by omega)) hav
              · rw [e4] at hk; rw [e3] at hφ
                exact hsr.apart k id j hk hidl (by rw [hψ]; exact hφ) (by rw [hψ]; exact h1) (by rw [hψ]; simp only; omega)
              · rw [e7] at g1 g2 g3
                dsimp only at g1 g2 g3
                by_cases hkid : k = id
                · rw [if_pos (show k = tokId C (.tok id ep s) from hkid)] at g1 g2 g3
                  simp only at g2; omega
                · rw [if_neg (show ¬ k = tokId C (.tok id ep s) from hkid)] at g1 g2 g3
                  have hk' := (e10 k hk).resolve_left hkid
                  exact hkid (hsr.tok k id j hk' hidl (by rw [hψ]; exact g1) g2 g3 (by rw [hψ]; exact h1) (by rw [hψ]; simp only; omega))
        · -- a new block
          have hgrow : cap < len + m := by
            rcases Nat.lt_or_ge cap (len + m) with h | h
            · exact h
            · exfalso
              cases c with
              | unk => simp [okCap] at hok
              | tight => have : cap = len := hC; omega
              | nilc => have : cap = len := hC.2; omega
              | nl => simp [okCap] at hok
              | nn => simp [okCap] at hok
              | tok id ep s =>
                simp only [okCap, Bool.and_eq_true, beq_iff_eq] at hok
                obtain ⟨rfl, hok⟩ := hok
                obtain ⟨k, h1, h2, h3⟩ := hC
                rw [hok] at h1; simp only [Option.some.injEq] at h1; subst h1
                rcases h3 rfl with h3 | ⟨b, cs, t', g1, g2, g3, g4⟩
                · omega
                · exact hplace ⟨⟨id, ep, s, b, cs, t', rfl, hok, rfl, g1, g2, g3, g4⟩, h⟩
          have hmul : len * sz + m * sz = (len + m) * sz := (Nat.add_mul _ _ _).symm
          have hbytes : (len + m) * i.bytes ≤ 140737488355328 := by
            rcases hroom with hroom | ⟨h3, hroom⟩
            · have : (len + m) * i.bytes ≤ 1048576 * 1048576 := Nat.mul_le_mul (by omega) hby
              omega
            · have : (len + m) * i.bytes ≤ 3518437208883 * 40 := Nat.mul_le_mul (by omega) (hb40 h3)
              omega
          obtain ⟨ncap, zs, hrun, hge, hzl⟩ : ∃ ncap zs, (Builtin.append_ #[t, t] ty #[.slice a len cap, .slice (some ⟨b2, o2, none⟩) m cap2]).run P C.w = .ok (.slice (some ⟨C.w.heap.size, 0, none⟩) (len + m) ncap) (C.w.drew.alloc (.cells (olds ++ news ++ zs).toArray e)) ∧ len + m ≤ ncap ∧ zs.length = (ncap - (len + m)) * sz := by
            cases a with
            | none =>
              have hlen0 : len = 0 := by
                rcases ho3 with h | ⟨b, o, h, -⟩
                · rw [h] at ho1
                  simp only [List.length_nil] at ho1
                  rcases Nat.mul_eq_zero.1 ho1.symm with h | h
                  · exact h
                  · omega
                · simp at h
              have hcap0 : cap = 0 := by
                cases c with
                | unk => simp [okCap] at hok
                | tight => have : cap = len := hC; omega
                | nilc => have : cap = len := hC.2; omega
                | nl => simp [okCap] at hok
                | nn => simp [okCap] at hok
                | tok id ep s =>
                  simp only [okCap, Bool.and_eq_true, beq_iff_eq] at hok
                  obtain ⟨k, h1, h2, h3⟩ := hC
                  rw [hok.2] at h1; simp only [Option.some.injEq] at h1; subst h1
                  rcases h3 rfl with h3 | ⟨b, cs, t', g1, -⟩
                  · omega
                  · simp at g1
              subst hlen0 hcap0
              have ho : olds = [] := List.eq_nil_of_length_eq_zero (by simpa using ho1)
              subst ho
              have := run_append_nil (P := P) C.w t ty e i z hu hi hz ⟨b2, o2, none⟩ m cap2 news (by rw [hsz]; exact hn1) hncell (by omega) (by omega) (by simp only [Nat.zero_add] at hbytes; omega)
              refine ⟨grownCap C.w m 0 e, (Builtin.zeroCells z.cells (grownCap C.w m 0 e - m)).toList, ?_, by have := grownCap_ge C.w m 0 e; omega, by simp [size_zeroCells, hzs]⟩
              rw [this]
              simp only [Nat.zero_add, List.nil_append]
              congr 3
              apply Array.ext'; simp
            | some ad =>
              obtain ⟨b, o, hab, hcells⟩ : ∃ b o, (olds = [] ∨ ad = ⟨b, o, none⟩) ∧ ∀ (j : Nat) v, olds[j]? = some v → C.w.cell? (ad.add j) = some v := by
                rcases ho3 with rfl | ⟨b, o, h, hl⟩
                · exact ⟨0, 0, .inl rfl, by simp⟩
                · simp only [Option.some.injEq] at h; subst h
                  exact ⟨b, o, .inr rfl, fun j v hj => by rw [add_none]; exact (lie_at hl j v hj).1⟩
              have := run_append_grow (P := P) C.w t ty e i z hu hi hz ad len cap olds (by rw [hsz]; exact ho1) hcells ⟨b2, o2, none⟩ m cap2 news (by rw [hsz]; exact hn1) hncell hgrow (by omega) (growslice_fits hgrow hbytes)
              refine ⟨grownCap C.w (len + m) cap e, (Builtin.zeroCells z.cells (grownCap C.w (len + m) cap e - (len + m))).toList, ?_, grownCap_ge C.w (len + m) cap e, by simp [size_zeroCells, hzs]⟩
              rw [this]
              congr 3
              apply Array.ext'; simp
          have hbel : Below C.w.heap.size C.w (C.w.drew.alloc (.cells (olds ++ news ++ zs).toArray e)) := ((Below.refl _ _).drew).alloc (by simp) _
          have hnb : (C.w.drew.alloc (.cells (olds ++ news ++ zs).toArray e)).heap[C.w.heap.size]? = some (.cells (olds ++ news ++ zs).toArray e (0, 0)) := heap_alloc_same C.w.drew _
          have hn : NewTok C c C.w.heap.size ((len + m) * sz) (ncap * sz) := .inr (.inl (Nat.le_refl _))
          have hle : Le C (C.tok (C.w.drew.alloc (.cells (olds ++ news ++ zs).toArray e)) c (C.w.heap.size, (len + m) * sz, ncap * sz)) :=
            Le.of_tok hok hn hbel.os hbel.tape hbel.output hbel.size (fun b o v hv _ => by rw [Below.cell hbel (cell_lt hv)]; exact hv) (fun b hb _ => hbel.block b hb) (fun b cs t fz hb => ⟨cs, below_shape hbel hb, rfl⟩)
          have hsr' := SR.of_tok hsr hok hn (fun _ => (Array.getElem?_eq_some_iff.1 hnb).1) hle (fun i hi => hbel.block _ (phi_lt hsr hi))
          obtain ⟨e1, e2, e3, e4, e5, e6, e7, e8, e9, e10, e11⟩ := tok_eq (w := C.w.drew.alloc (.cells (olds ++ news ++ zs).toArray e)) (x := (C.w.heap.size, (len + m) * sz, ncap * sz)) hok
          refine ⟨_, _, by rw [e1]; exact hrun, hle, hsr', e4, e6, e5, ?_⟩
          have hzz : (ncap - (len + m)) * sz = ncap * sz - (len + m) * sz := Nat.sub_mul _ _ _
          have hnn : (len + m) * sz ≤ ncap * sz := Nat.mul_le_mul_right _ hge
          simp only [VR]
          refine ⟨_, len + m, ncap, rfl, by simp; omega, hge, capR_new hok (.inr ⟨_, e, rfl, rfl, hnb, by simp; omega⟩), .inr ⟨C.w.heap.size, 0, sz, rfl, ?_⟩⟩
          have hst := hle.stays
          refine PRows_lay (l := olds ++ news) hrows (by rw [List.flatten_append]; exact PRs_append (PRs.stays hst _ _ ho2) (PRs.stays hst _ _ hn2)) (lie_of fun j v hj => ?_)
          rw [Nat.zero_add]
          have hjl : j < (len + m) * sz := by
            have := (List.getElem?_eq_some_iff.1 hj).1
            simp at this; omega
          constructor
          · rw [e1]
            simp only [World.cell?, hnb]
            have hjl2 : j < (olds ++ news).length := (List.getElem?_eq_some_iff.1 hj).1
            have : (olds ++ news ++ zs)[j]? = some v := by rw [List.getElem?_append_left hjl2]; exact hj
            simpa using this
          · rintro (hav | hm')
            · rw [e2] at hav
              have := hsr.avlt _ _ hav; omega
            · rcases Mut_tok hok hn hm' with h | ⟨-, h1, h2, -⟩
              · exact hsr.fresh (Nat.le_refl _) (.inr h)
              · omega
    · simp at h
  · simp at h
theorem apA_sound [Globs] {C : Cx} (hsr : SR C) {t ty : TypeId} {x y av : AV} {vx vy : Value} {tk' : List Nat} (hx : VR C x vx) (hy : VR C y vy) (h : apA P t x y C.tk = some (av, tk')) :
    ∃ v C', (Builtin.append_ #[t, t] ty #[vx, vy]).run P C.w = .ok v C'.w ∧ Le C C' ∧ SR C' ∧ C'.S = C.S ∧ C'.tk = tk' ∧ C'.n = C.n ∧ VR C' av v := by
  have h0 := h
  unfold apA at h
  split at h
  · rename_i es c ys c2 sz hT
    refine apG_sound hsr hx rfl ?_ h0
    simp only [VR] at hy
    obtain ⟨a, m, cap, rfl, hm, -, -, hY⟩ := hy
    refine ⟨a, m, cap, rfl, hm, ?_⟩
    rcases hY with rfl | ⟨b, o, s', rfl, hr⟩
    · left; simpa using hm.symm
    · right
      obtain ⟨l, g1, g2, g3⟩ := PRows_unlay hr
      exact ⟨b, o, l, rfl, g2, fun j u hj => (lie_at g3 j u hj).1⟩
  · simp at h
theorem run_zeroCells {w : World} {e : TypeId} {z : List AV} {s m : Nat} (hz : zeroOf P e = some z) (hzs : z.length = s) (hs0 : 0 < s) :
    ∃ (zv : Value) (arr : Array Value), (zeroValue e).run P w = .ok zv w ∧ arr.toList.map cst1 = (List.replicate m z).flatten ∧ (m * s = 0 → arr = #[]) ∧ (m * s ≠ 0 → arr = (Array.range (m * s)).map fun x => zv.cells[x % zv.cells.size]!) := by
  obtain ⟨zv, hz1, rfl⟩ := zeroOf_run (w := w) hz
  have hl : zv.cells.toList.length = s := by simpa using hzs
  have hl' : zv.cells.size = s := by simpa using hl
  by_cases hm : m * s = 0
  · have hm0 : m = 0 := by
      rcases Nat.mul_eq_zero.1 hm with h | h
      · exact h
      · omega
    exact ⟨zv, #[], hz1, by simp [hm0], fun _ => rfl, fun h => absurd hm h⟩
  · refine ⟨zv, (Array.range (m * s)).map fun x => zv.cells[x % zv.cells.size]!, hz1, ?_, fun h => absurd h hm, fun _ => rfl⟩
    have := range_mod zv.cells.toList s hl hs0 m
    have e1 : ((Array.range (m * s)).map (zv.cells[· % zv.cells.size]!)).toList = (List.replicate m zv.cells.toList).flatten := by
      rw [← this]
      simp [hl', Array.toList_range]
      intro a _; rw [getElem!_def]; cases zv.cells[a % s]? <;> rfl
    rw [e1, List.map_flatten, List.map_replicate]
theorem mkA_sound {C : Cx} {t : TypeId} {l c : AV} {vl vc : Value} {n sz : Nat} {cs : List AV} (hl : VR C l vl) (hc : VR C c vc) (h : mkA P t l c = some (n, sz, cs)) :
    ∃ (e : TypeId) (m : Nat) (arr : Array Value), (Instr.makeSlice t vl vc).run P C.w = .ok (.slice (some ⟨C.w.heap.size, 0, none⟩) n m) (C.w.alloc (.cells arr e)) ∧ arr.toList.map cst1 = cs ∧ n ≤ m ∧ cs.length = m * sz ∧ intN l = some n := by
  unfold mkA mkB at h
  split at h
  · rename_i l' c' sz' z b h1 h2 h3 h4 h5
    split at h
    · rename_i hh
      simp only [Option.some.injEq, Prod.mk.injEq] at h
      obtain ⟨rfl, rfl, rfl⟩ := h
      obtain ⟨g1, g2, g3, g4⟩ := hh
      cases he : elemOf P t with
      | none => rw [he] at h3; simp at h3
      | some e =>
        rw [he] at h3 h4 h5
        simp only [Option.bind_some] at h3 h4 h5
        obtain ⟨kl, rfl⟩ := intN_sound h1 hl
        obtain ⟨kc, rfl⟩ := intN_sound h2 hc
        obtain ⟨zv, arr, r1, r2, r3, r4⟩ := run_zeroCells (w := C.w) (m := c') h4 g4 (by omega)
        refine ⟨e, c', arr, ?_, r2, g1, ?_, h1⟩
        · simp only [bytesOf, Option.map_eq_some_iff] at h5
          obtain ⟨i, hi, rfl⟩ := h5
          have w1 : IntKind.i64.wrap (l' : Int) = l' := Go.IntWalk.i64_in _ (by omega)
          have w2 : IntKind.i64.wrap (c' : Int) = c' := Go.IntWalk.i64_in _ (by omega)
          have hb : (i.bytes : Int) * (c' : Int) ≤ 2 ^ 40 := by
            have : i.bytes * c' ≤ 1048576 * 1048576 := Nat.mul_le_mul g3 g2
            have e : ((i.bytes * c' : Nat) : Int) = (i.bytes : Int) * c' := by simp
            rw [← e]; omega
          have hb' : c' * i.bytes ≤ 2 ^ 40 := by rw [Nat.mul_comm]; have : ((i.bytes * c' : Nat) : Int) = (i.bytes : Int) * c' := by simp
                                                 omega
          have n1 : ¬ ((c' : Int) < 0 ∨ (i.bytes : Int) * c' > 2 ^ 48) := by omega
          have n2 : ¬ ((l' : Int) < 0) := by omega
          have n3 : ¬ ((l' : Int) > (c' : Int)) := by omega
          have n4 : ¬ (c' * i.bytes > roomBytes) := by unfold roomBytes; omega
          have hroom : (askRoom (c' * i.bytes)).run P C.w = .ok () C.w := by simp [askRoom, n4]
          simp [Instr.makeSlice, Sem.run_bind, run_und (elemOf_und he), asInt, asIntOf, typeInfo, w1, w2, hi]
          rw [if_neg (by omega)]
          simp only [hroom, Result.andThen_ok, run_siz h3]
          by_cases hm : c' * (sz' + 1) = 0
          · have e0 : ∀ f : Nat → Value, (Array.range 0).map f = #[] := fun f => by simp
            rw [if_pos hm, r3 hm, hm, e0]
            rfl
          · rw [if_neg hm, r4 hm, r1]
            rfl
        · have : ∀ (m : Nat) (z : List AV), (List.replicate m z).flatten.length = m * z.length := fun m z => by simp
          rw [this, g4]
    · simp at h
  · simp at h
theorem put_self {α : Type} : ∀ {l : List α} {i : Nat} {x : α}, nth l i = some x → put l i x = l
  | _ :: _, 0, _, h => by simp only [nth, Option.some.injEq] at h; subst h; rfl
  | _ :: l, i + 1, _, h => by simp only [nth] at h; simp only [put, put_self h]
  | [], _, _, h => by simp [nth] at h
theorem VRs_len {C : Cx} {cs : List AV} {vs : List Value} (h : VRs C cs vs) : cs.length = vs.length := VRs_length h
theorem srcA_sound [Globs] {C : Cx} (hsr : SR C) {sz n m : Nat} {s : AV} {vs : Value} {cs : List AV} (hs : VR C s vs) (hl : lenA s = some m) (hnm : n ≤ m) (h : srcA sz n s C.S = some cs) :
    ∃ news : List Value, (Builtin.firstCells sz n vs).run P C.w = .ok news.toArray C.w ∧ VRs C cs news ∧ news.length = n * sz := by
  unfold srcA at h
  split at h
  · rename_i es c
    split at h
    · rename_i hr
      simp only [Option.some.injEq] at h; subst h
      simp only [lenA, Option.some.injEq] at hl
      simp only [VR] at hs
      obtain ⟨a, len, cap, rfl, hlen, -, -, hE⟩ := hs
      by_cases hn : n = 0
      · subst hn
        refine ⟨[], ?_, by simp [VRs], by simp⟩
        cases a <;> simp [Builtin.firstCells, loadCells, loadCellsFrom]
      · rcases hE with rfl | ⟨b, o, s', rfl, hp⟩
        · simp at hl; omega
        · have hne : es ≠ [] := by rintro rfl; simp at hl; omega
          have := PRows_sz hp hr hne
          subst this
          obtain ⟨l, g1, g2, g3⟩ := PRows_unlay (PRows_take n hp)
          have hlen' : l.length = n * s' := by rw [g1, List.length_take, show min n es.length = n by omega]
          refine ⟨l, ?_, VRs_of_PRs g2, hlen'⟩
          exact run_firstCells_some (P := P) C.w s' n ⟨b, o, none⟩ len cap l hlen' (fun j v hj => by rw [add_none]; exact (lie_at g3 j v hj).1)
    · simp at h
  · rename_i id ep off len' sz'
    split at h
    · rename_i hsz
      subst hsz
      split at h
      · rename_i ce he
        obtain ⟨e, h1, h2, rfl⟩ := entAt_some he
        simp only [lenA, Option.some.injEq] at hl
        subst hl
        simp only [VR] at hs
        obtain ⟨b, a, cap, rfl, hcap, ha, hn0, hb⟩ := hs
        obtain rfl := (hb e h1 h2).1
        obtain ⟨hlt, arr, t', h3, h4⟩ := hsr.entC h1 (entAt_notM he)
        obtain ⟨p, h4⟩ := entP h4
        obtain ⟨h5, h6⟩ := VRs_take (VRs_drop off h4) (by rw [List.drop_append]; exact takeNP _ h)
        by_cases hn : n = 0
        · subst hn
          rw [Nat.zero_mul] at h
          simp only [takeN, Option.some.injEq] at h; subst h
          refine ⟨[], ?_, by simp [VRs], by simp⟩
          cases a <;> simp [Builtin.firstCells, loadCells, loadCellsFrom]
        · rcases ha with ha | rfl
          · omega
          · have hlen' : ((arr.toList.drop off).take (n * sz)).length = n * sz := by simp at h6 ⊢; omega
            refine ⟨(arr.toList.drop off).take (n * sz), ?_, h5, hlen'⟩
            refine run_firstCells_some (P := P) C.w sz n ⟨C.φ id, off, none⟩ len' cap _ hlen' (fun j v hj => ?_)
            rw [add_none]
            have hj' : j < n * sz := by rw [← hlen']; exact (List.getElem?_eq_some_iff.1 hj).1
            rw [List.getElem?_take_of_lt hj', List.getElem?_drop] at hj
            simp [World.cell?, h3]; simpa using hj
      · simp at h
    · simp at h
  · simp at h
theorem cpA_sound [Globs] {C : Cx} (hsr : SR C) {t t' ty : TypeId} {d s : AV} {vd vs : Value} {n : Nat} {S' : List Ent} (hd : VR C d vd) (hs : VR C s vs) (h : cpA P t d s C.S = some (n, S')) :
    ∃ C', (Builtin.copy_ #[t, t'] ty #[vd, vs]).run P C.w = .ok (.int .i64 (n : Int)) C'.w ∧ Le C C' ∧ SR C' ∧ C'.S = S' ∧ C'.tk = C.tk ∧ C'.n = C.n := by
  unfold cpA at h
  split at h
  · rename_i id ep off len sz m hm
    split at h
    · rename_i hsz
      split at h
      · rename_i news cs0 hsrc hent
        split at h
        · rename_i hleaf
          split at h
          · rename_i cs' ho
            simp only [Option.some.injEq, Prod.mk.injEq] at h
            obtain ⟨rfl, rfl⟩ := h
            obtain ⟨e, h1, h2, rfl⟩ := entAt_some hent
            obtain ⟨a2, cap2, rfl⟩ := lenA_sound hs hm
            obtain ⟨us, r1, r2, r3⟩ := srcA_sound (P := P) hsr hs hm (Nat.min_le_left _ _) hsrc
            simp only [VR] at hd
            obtain ⟨b, a, cap, rfl, hcap, ha, hn0, hb⟩ := hd
            obtain rfl := (hb e h1 h2).1
            obtain ⟨hlt, arr, tt, h3, h4⟩ := hsr.entC h1 (entAt_notM hent)
            obtain ⟨p, h4⟩ := entP h4
            obtain ⟨h5, h6⟩ := over_puts (overP p ho)
            have hl2 := VRs_length r2
            have hl4 := VRs_length h4
            simp only [Array.length_toList] at hl4
            cases he : elemOf P t with
            | none => rw [he] at hsz; simp at hsz
            | some el =>
              rw [he] at hsz
              simp only [Option.bind_some] at hsz
              have hmin : Nat.min m len = min m len := rfl
              by_cases hn : min m len = 0
              · rw [hn] at r3
                have hus : us = [] := List.eq_nil_of_length_eq_zero (by omega)
                subst hus
                have hnews : news = [] := List.eq_nil_of_length_eq_zero (by simpa using hl2)
                subst hnews
                have : cs' = e.cells := by
                  have : cs' ++ p = e.cells ++ p := by rw [h5]; simp [puts]
                  exact List.append_cancel_right this
                subst this
                have hput : put C.S id ⟨ep, e.cells⟩ = C.S := by subst h2; exact put_self h1
                refine ⟨C, ?_, Le.refl C, hsr, hput.symm, rfl, rfl⟩
                rw [hn] at r1 ⊢
                cases a <;> simp [Builtin.copy_, run_und (elemOf_und he), Builtin.lenOf, hmin, hn, run_siz hsz, r1, goInt, storeCells]
              · have ha' : a = some ⟨C.φ id, off, none⟩ := ha.resolve_left (by
                  intro h0
                  rw [h0.1] at hn
                  exact hn (Nat.min_eq_right (Nat.zero_le _)))
                subst ha'
                have hfit : off + 0 + us.length ≤ arr.size := by omega
                have hrun := run_storeCells_at P (C.φ id) off tt us 0 arr C.w h3 hfit (fun v hv' => leafs_one r2 hleaf v hv')
                have hsets := sets_eq (us := us) (l := arr.toList) (o := off) (by simp; omega)
                have hnew : VRs C (cs' ++ p) (arr.toList.take off ++ us ++ arr.toList.drop (off + us.length)) := by
                  rw [← hsets, h5]; exact VRs_puts h4 r2
                refine ⟨{ C with w := C.w.setRow (C.φ id) (arr.toList.take off ++ us ++ arr.toList.drop (off + us.length)).toArray, S := put C.S id ⟨ep, cs'⟩ }, ?_, Le.of_store hsr h1 h2.symm h3 ?_, SR.of_store hsr h1 h2.symm h3 ?_ (ofEntP (by simpa using hnew)), rfl, rfl, rfl⟩
                · simp only [Nat.add_zero] at hrun
                  simp [Builtin.copy_, run_und (elemOf_und he), Builtin.lenOf, hmin, run_siz hsz, r1, goInt, hrun]
                · have := VRs_length hnew
                  rw [h5, puts_len] at this
                  simp at this ⊢
                  omega
                · have := VRs_length hnew
                  rw [h5, puts_len] at this
                  simp at this ⊢
                  omega
          · simp at h
        · simp at h
      · simp at h
    · simp at h
  · simp at h
end
end Go.Proofs.YtmkoiandfojgmaaGreat
