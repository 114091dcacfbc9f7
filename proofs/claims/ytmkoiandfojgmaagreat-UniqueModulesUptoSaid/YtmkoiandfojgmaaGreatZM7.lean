/-
  Texts laid together: EvMap, EvRun, EvFun.
-/
import Derived.Test.YtmkoiandfojgmaaGreatZM6
import Derived.MapKept
import Derived.ChangeMaps5
namespace Go.Proofs.YtmkoiandfojgmaaGreat
open Go.RowKit Go.ChangeMaps
section
variable {P : Program}
theorem setT_und {t : TypeId} (h : setT P t = true) : ∃ k e i, P.underlying t = some (.map k e) ∧ P.underlying k = some .string ∧ P.info? e = some i ∧ i.zero = some (.bool false) := by
  unfold setT at h
  split at h
  · rename_i k e hu
    simp only [Bool.and_eq_true] at h
    obtain ⟨h1, h2⟩ := h
    have hk : P.underlying k = some .string := by
      unfold isStr at h1
      split at h1
      · assumption
      · cases h1
    unfold falseZ at h2
    split at h2
    · rename_i hz
      rw [Option.bind_eq_some_iff] at hz
      obtain ⟨i, hi, hz⟩ := hz
      exact ⟨k, e, i, hu, hk, hi, hz⟩
    · cases h2
  · cases h
theorem run_check {k : TypeId} {w : World} {x : ByteArray} (hk : P.underlying k = some .string) (e : Bool) : (Instr.checkKey e 10000 k (.string x)).run P w = .ok () w := by
  unfold Instr.checkKey
  simp only [Sem.run_bind, run_und hk, Result.andThen_ok, Sem.run_pure]
theorem findNow_str {x : ByteArray} : ∀ {es : List MapEntry} {i : Nat}, (∀ e ∈ es, ∃ y, e.key = .string y) →
    (Instr.findNow .string (.string x) es i = some none ∧ ∀ e ∈ es, e.key ≠ .string x) ∨ ∃ j e, Instr.findNow .string (.string x) es i = some (some (i + j, e.val)) ∧ es[j]? = some e ∧ e.key = .string x
  | [], i, _ => .inl ⟨rfl, by simp⟩
  | e :: es, i, h => by
    obtain ⟨y, hy⟩ := h e (by simp)
    unfold Instr.findNow
    rw [hy]
    by_cases hxy : x = y
    · subst hxy
      right
      exact ⟨0, e, by simp [Instr.sameNow, (MapKept.bytes_beq x x).2 rfl], rfl, hy⟩
    · have hb : (x == y) = false := by
        cases hq : x == y with
        | false => rfl
        | true => exact absurd ((MapKept.bytes_beq x y).1 hq) hxy
      have e1 : Instr.sameNow .string (.string x) (.string y) = some false := by simp [Instr.sameNow, hb]
      rw [e1]
      rcases findNow_str (x := x) (es := es) (i := i + 1) (fun e he => h e (by simp [he])) with ⟨h1, h2⟩ | ⟨j, e', h1, h2, h3⟩
      · refine .inl ⟨h1, fun e' he' => ?_⟩
        rcases List.mem_cons.1 he' with rfl | he'
        · rw [hy]; intro hh; exact hxy (Value.string.inj hh).symm
        · exact h2 e' he'
      · refine .inr ⟨j + 1, e', ?_, by simpa using h2, h3⟩
        rw [show i + (j + 1) = i + 1 + j by omega]; exact h1
theorem run_find {k : TypeId} {w : World} {x : ByteArray} {es : List MapEntry} {r : Option (Nat × Value)} (hk : P.underlying k = some .string) (h : Instr.findNow .string (.string x) es 0 = some r) : (Instr.findKey k (.string x) es).run P w = .ok r w := by
  unfold Instr.findKey
  simp only [Sem.run_bind, run_und hk, Result.andThen_ok, h, Sem.run_pure]
theorem mapOk_none : MapOk #[] 0 noK := ⟨by simp, by simp, by simp, by simp, fun x => by simp [noK]⟩
theorem mapOk_keys {es : Array MapEntry} {clock : Nat} {s : ByteArray → Bool} (h : MapOk es clock s) : ∀ e ∈ es.toList, ∃ y, e.key = .string y := fun e he => by obtain ⟨x, hx, -⟩ := h.1 e he; exact ⟨x, hx⟩
theorem mapOk_look {es : Array MapEntry} {clock : Nat} {s : ByteArray → Bool} (h : MapOk es clock s) (x : ByteArray) :
    (Instr.findNow .string (.string x) es.toList 0 = some none ∧ s x = false ∧ ∀ e ∈ es.toList, e.key ≠ .string x) ∨ ∃ j e, Instr.findNow .string (.string x) es.toList 0 = some (some (j, e.val)) ∧ es.toList[j]? = some e ∧ e.key = .string x ∧ e.val = .bool true ∧ s x = true := by
  rcases findNow_str (x := x) (i := 0) (mapOk_keys h) with ⟨h1, h2⟩ | ⟨j, e, h1, h2, h3⟩
  · refine .inl ⟨h1, ?_, h2⟩
    cases hs : s x with
    | false => rfl
    | true =>
      obtain ⟨e, he, hk⟩ := (h.2.2.2.2 x).1 hs
      exact absurd hk (h2 e he)
  · have he := List.mem_of_getElem? h2
    obtain ⟨y, -, hv⟩ := h.1 e he
    refine .inr ⟨j, e, by simpa using h1, h2, h3, hv, (h.2.2.2.2 x).2 ⟨e, he, h3⟩⟩
theorem mapOk_push {es : Array MapEntry} {clock : Nat} {s : ByteArray → Bool} (h : MapOk es clock s) {x : ByteArray} (hx : ∀ e ∈ es.toList, e.key ≠ .string x) : MapOk (es.push ⟨.string x, .bool true, clock⟩) (clock + 1) (addK s x) := by
  obtain ⟨h1, h2, h3, h4, h5⟩ := h
  refine ⟨?_, ?_, ?_, ?_, ?_⟩
  · intro e he
    simp only [Array.toList_push, List.mem_append, List.mem_singleton] at he
    rcases he with he | rfl
    · exact h1 e he
    · exact ⟨x, rfl, rfl⟩
  · rw [Array.toList_push, List.pairwise_append]
    exact ⟨h2, by simp, fun a ha b hb => by rw [List.mem_singleton] at hb; subst hb; exact hx a ha⟩
  · rw [Array.toList_push, List.pairwise_append]
    exact ⟨h3, by simp, fun a ha b hb => by rw [List.mem_singleton] at hb; subst hb; exact Nat.ne_of_lt (h4 a ha)⟩
  · intro e he
    simp only [Array.toList_push, List.mem_append, List.mem_singleton] at he
    rcases he with he | rfl
    · exact Nat.lt_succ_of_lt (h4 e he)
    · exact Nat.lt_succ_self _
  · intro y
    simp only [addK, Bool.or_eq_true, decide_eq_true_eq, Array.toList_push, List.mem_append, List.mem_singleton, h5]
    constructor
    · rintro (rfl | ⟨e, he, hk⟩)
      · exact ⟨_, .inr rfl, rfl⟩
      · exact ⟨e, .inl he, hk⟩
    · rintro ⟨e, he | rfl, hk⟩
      · exact .inr ⟨e, he, hk⟩
      · exact .inl (Value.string.inj hk).symm
theorem mapOk_same {es : Array MapEntry} {clock : Nat} {s : ByteArray → Bool} (h : MapOk es clock s) {x : ByteArray} (hx : s x = true) : MapOk es clock (addK s x) := by
  have : addK s x = s := by
    funext y
    unfold addK
    by_cases e : y = x
    · subst e; simp [hx]
    · simp [e]
  rw [this]; exact h
theorem modify_self {es : Array MapEntry} {j : Nat} {e : MapEntry} (h : es.toList[j]? = some e) {k v : Value} (hk : e.key = k) (hv : e.val = v) : es.modify j (fun e' => { e' with key := k, val := v }) = es := by
  apply Array.ext'
  rw [Array.toList_modify]
  apply List.ext_getElem?
  intro i
  rw [List.getElem?_modify]
  by_cases hij : j = i
  · subst hij
    rw [h]
    simp [← hk, ← hv]
  · simp [hij]
theorem mapOk_erase {es : Array MapEntry} {clock : Nat} {s : ByteArray → Bool} (h : MapOk es clock s) {x : ByteArray} {j : Nat} {e : MapEntry} (hj : es.toList[j]? = some e) (hk : e.key = .string x) : MapOk (es.eraseIdxIfInBounds j) clock (delK s x) := by
  obtain ⟨h1, h2, h3, h4, h5⟩ := h
  have hjl : j < es.size := by have := (List.getElem?_eq_some_iff.1 hj).1; simpa using this
  have hl : (es.eraseIdxIfInBounds j).toList = es.toList.eraseIdx j := by
    unfold Array.eraseIdxIfInBounds
    rw [dif_pos hjl]
    simp
  have hsub : (es.toList.eraseIdx j).Sublist es.toList := List.eraseIdx_sublist _ _
  have hne : ∀ e' ∈ es.toList.eraseIdx j, e'.key ≠ .string x := by
    intro e' he'
    obtain ⟨i, hij, hi⟩ := List.mem_eraseIdx_iff_getElem?.1 he'
    rw [← hk]
    obtain ⟨hi1, hi2⟩ := List.getElem?_eq_some_iff.1 hi
    obtain ⟨hj1, hj2⟩ := List.getElem?_eq_some_iff.1 hj
    rw [← hi2, ← hj2]
    rcases Nat.lt_or_gt_of_ne hij with hlt | hlt
    · exact List.pairwise_iff_getElem.1 h2 i j hi1 hj1 hlt
    · exact Ne.symm (List.pairwise_iff_getElem.1 h2 j i hj1 hi1 hlt)
  refine ⟨?_, ?_, ?_, ?_, ?_⟩ <;> rw [hl]
  · exact fun e he => h1 e (hsub.subset he)
  · exact h2.sublist hsub
  · exact h3.sublist hsub
  · exact fun e he => h4 e (hsub.subset he)
  · intro y
    simp only [delK, Bool.and_eq_true, Bool.not_eq_true', decide_eq_false_iff_not, h5]
    constructor
    · rintro ⟨hyx, e', he', hk'⟩
      refine ⟨e', ?_, hk'⟩
      rw [List.mem_eraseIdx_iff_getElem?]
      obtain ⟨i, hi⟩ := List.getElem?_of_mem he'
      refine ⟨i, ?_, hi⟩
      rintro rfl
      rw [hj] at hi
      simp only [Option.some.injEq] at hi
      subst hi
      exact hyx (Value.string.inj (hk'.symm.trans hk))
    · rintro ⟨e', he', hk'⟩
      refine ⟨?_, e', hsub.subset he', hk'⟩
      rintro rfl
      exact hne e' he' hk'
theorem mapOk_undel {es : Array MapEntry} {clock : Nat} {s : ByteArray → Bool} (h : MapOk es clock s) {x : ByteArray} (hx : s x = false) : MapOk es clock (delK s x) := by
  have : delK s x = s := by
    funext y
    unfold delK
    by_cases e : y = x
    · subst e; simp [hx]
    · simp [e]
  rw [this]; exact h
def Cx.moreM (C : Cx) (es : Array MapEntry) (clock : Nat) (s : ByteArray → Bool) : Cx :=
  { C with w := C.w.alloc (.map es clock), φ := fun i => if i = C.S.length then C.w.heap.size else C.φ i, S := C.S ++ [⟨C.n, [.mset s]⟩], n := C.n + 1 }
theorem Le.moreM [Globs] {C : Cx} (hsr : SR C) (es : Array MapEntry) (clock : Nat) (s : ByteArray → Bool) : Le C (C.moreM es clock s) := by
  have hb : Below C.w.heap.size C.w (C.w.alloc (.map es clock)) := (Below.refl _ _).alloc (Nat.le_refl _) _
  refine ⟨rfl, rfl, rfl, hb.size, rfl, Nat.le_succ _, ?_, fun b o v hv _ => by rw [show (C.moreM es clock s).w = C.w.alloc (.map es clock) from rfl, Below.cell hb (cell_lt hv)]; exact hv, fun b hlt _ => hb.block b hlt, fun b d t' fz hd => ⟨d, below_shape hb hd, rfl⟩, ?_, fun _ k hk => ⟨k, hk, Nat.le_refl _, fun _ => rfl⟩⟩
  · rintro b o hlt (⟨i, hi, h⟩ | h)
    · simp only [Cx.moreM] at hi h
      split at h
      · omega
      · exact .inl ⟨i, by simp at hi; omega, h⟩
    · exact .inr h
  · intro i x hx hn
    rcases nth_snoc hx with ⟨h1, h2⟩ | ⟨h1, h2⟩
    · subst h2; simp at hn
    · refine ⟨x, h2, rfl, ?_⟩
      simp only [Cx.moreM]
      rw [if_neg (by omega)]
theorem SR.moreM [Globs] {C : Cx} (hsr : SR C) {es : Array MapEntry} {clock : Nat} {s : ByteArray → Bool} (hm : MapOk es clock s) : SR (C.moreM es clock s) := by
  have hle := Le.moreM hsr es clock s
  have hb : Below C.w.heap.size C.w (C.w.alloc (.map es clock)) := (Below.refl _ _).alloc (Nat.le_refl _) _
  refine ⟨fun i x hx => ?_, fun i j hi hj h => ?_, hsr.tok, fun i j o hi hj h h1 h2 => ?_, ?_, fun b o ha => Nat.lt_of_lt_of_le (hsr.avlt b o ha) hb.size, fun i o hi h1 h2 => Nat.lt_of_lt_of_le (hsr.tlt i o hi h1 h2) hb.size, glob_le hsr hle⟩
  · rcases nth_snoc hx with ⟨h1, rfl⟩ | ⟨h1, h2⟩
    · refine ⟨Nat.lt_succ_self _, .inr ⟨s, rfl, es, clock, ?_, hm⟩⟩
      simp only [Cx.moreM, h1, if_true]
      exact heap_alloc_same _ _
    · refine ⟨Nat.lt_succ_of_lt (hsr.ent i x h2).1, (hsr.ent i x h2).2.move ?_ (VRs.mono hle _)⟩
      simp only [Cx.moreM]
      rw [if_neg (by omega)]
      exact hb.block _ (hsr.lt h2)
  · simp only [Cx.moreM, List.length_append, List.length_cons, List.length_nil] at hi hj h
    by_cases hi' : i = C.S.length <;> by_cases hj' : j = C.S.length
    · omega
    · rw [if_pos hi', if_neg hj'] at h
      have := phi_lt hsr (i := j) (by omega); omega
    · rw [if_neg hi', if_pos hj'] at h
      have := phi_lt hsr (i := i) (by omega); omega
    · rw [if_neg hi', if_neg hj'] at h
      exact hsr.ne i j (by omega) (by omega) h
  · simp only [Cx.moreM, List.length_append, List.length_cons, List.length_nil] at hi h hj h1 h2
    by_cases hi' : i = C.S.length
    · rw [if_pos hi'] at h
      have := hsr.tlt j o hj h1 h2; omega
    · rw [if_neg hi'] at h
      exact hsr.apart i j o (by omega) hj h h1 h2
  · rintro b o (⟨i, hi, h⟩ | h)
    · simp only [Cx.moreM, List.length_append, List.length_cons, List.length_nil] at hi h
      by_cases hi' : i = C.S.length
      · rw [if_pos hi'] at h
        intro ha
        have := hsr.avlt b o ha; omega
      · rw [if_neg hi'] at h
        exact hsr.own b o (.inl ⟨i, by omega, h⟩)
    · exact hsr.own b o (.inr h)
theorem VR_mnew {C : Cx} {es : Array MapEntry} {clock : Nat} {s : ByteArray → Bool} : VR (C.moreM es clock s) (.mref C.S.length C.n) (.map (some C.w.heap.size)) := by
  simp only [VR]
  exact ⟨_, rfl, Nat.lt_succ_self _, fun e _ _ => by simp [Cx.moreM]⟩
def Cx.putM (C : Cx) (id : Nat) (ep : Nat) (es : Array MapEntry) (clock : Nat) (s : ByteArray → Bool) : Cx :=
  { C with w := setBlock C.w (C.φ id) (.map es clock), S := put C.S id ⟨ep, [.mset s]⟩ }
section
variable {C : Cx} {id : Nat} {e : Ent} {es es' : Array MapEntry} {clock clock' : Nat} {s s' : ByteArray → Bool}
theorem Le.putM [Globs] (hsr : SR C) (he : nth C.S id = some e) (hb : C.w.heap[C.φ id]? = some (.map es clock)) : Le C (C.putM id e.ep es' clock' s') := by
  have hm : ∀ o, C.Mut (C.φ id) o := fun o => .inl ⟨id, nth_lt he, rfl⟩
  have ho : ∀ b, b ≠ C.φ id → (setBlock C.w (C.φ id) (.map es' clock')).heap[b]? = C.w.heap[b]? := fun b h => heap_setBlock_other hb _ h
  refine ⟨rfl, rfl, rfl, by simp [Cx.putM, setBlock], rfl, Nat.le_refl _, ?_, ?_, ?_, ?_, ?_, fun _ k hk => ⟨k, hk, Nat.le_refl _, fun _ => rfl⟩⟩
  · rintro b o - (⟨i, hi, h⟩ | h)
    · exact .inl ⟨i, by simpa [Cx.putM, put_len] using hi, h⟩
    · exact .inr h
  · intro b o v hv hn
    have hne : b ≠ C.φ id := fun h => hn (h ▸ hm o)
    simpa [World.cell?, Cx.putM, ho b hne] using hv
  · intro b _ hn
    exact ho b fun h => hn 0 (h ▸ hm 0)
  · intro b d t' fz hd
    have hne : b ≠ C.φ id := by rintro rfl; rw [hb] at hd; cases hd
    exact ⟨d, by simp only [Cx.putM]; rw [ho b hne]; exact hd, rfl⟩
  · intro i x hx _
    by_cases h : id = i
    · subst h
      have := nth_put_same hx
      subst this
      exact ⟨e, he, rfl, rfl⟩
    · simp only [Cx.putM] at hx
      rw [nth_put_other h] at hx
      exact ⟨x, hx, rfl, rfl⟩
theorem SR.putM [Globs] (hsr : SR C) (he : nth C.S id = some e) (hb : C.w.heap[C.φ id]? = some (.map es clock)) (hm : MapOk es' clock' s') : SR (C.putM id e.ep es' clock' s') := by
  have hle := Le.putM (es' := es') (clock' := clock') (s' := s') hsr he hb
  refine ⟨fun i x hx => ?_, fun i j hi hj h => hsr.ne i j (by simpa [Cx.putM, put_len] using hi) (by simpa [Cx.putM, put_len] using hj) h, hsr.tok, fun i j o hi hj => hsr.apart i j o (by simpa [Cx.putM, put_len] using hi) hj, ?_, fun b o ha => Nat.lt_of_lt_of_le (hsr.avlt b o ha) hle.size, fun i o hi h1 h2 => Nat.lt_of_lt_of_le (hsr.tlt i o hi h1 h2) hle.size, glob_le hsr hle⟩
  · by_cases h : id = i
    · subst h
      have := nth_put_same hx
      subst this
      exact ⟨(hsr.ent id e he).1, .inr ⟨s', rfl, es', clock', heap_setBlock_same hb _, hm⟩⟩
    · have hx' : nth C.S i = some x := by simp only [Cx.putM] at hx; rw [← nth_put_other h]; exact hx
      have hne : C.φ i ≠ C.φ id := fun hh => h (hsr.ne i id (nth_lt hx') (nth_lt he) hh).symm
      exact ⟨(hsr.ent i x hx').1, (hsr.ent i x hx').2.move (heap_setBlock_other hb _ hne) (VRs.mono hle _)⟩
  · rintro b o (⟨i, hi, h⟩ | h)
    · exact hsr.own b o (.inl ⟨i, by simpa [Cx.putM, put_len] using hi, h⟩)
    · exact hsr.own b o (.inr h)
end
theorem mapAt_some {S : List Ent} {id ep : Nat} {s : ByteArray → Bool} (h : mapAt S id ep = some s) : nth S id = some ⟨ep, [.mset s]⟩ := by
  unfold mapAt at h
  split at h
  · rename_i e he
    split at h
    · rename_i hep
      unfold msOf at h
      split at h
      · rename_i s' hc
        simp only [Option.some.injEq] at h
        subst h hep
        obtain ⟨ep, cs⟩ := e
        simp only at hc
        rw [he, hc]
      · cases h
    · cases h
  · cases h
theorem mapAt_ent [Globs] {C : Cx} (hsr : SR C) {id ep : Nat} {s : ByteArray → Bool} (h : mapAt C.S id ep = some s) : MapIs C.w (C.φ id) s := by
  have h1 := hsr.ent id _ (mapAt_some h)
  rcases h1.2 with ⟨hn, -⟩ | ⟨s', hs, hm⟩
  · cases hn
  · simp only [List.cons.injEq, AV.mset.injEq, and_true] at hs
    subst hs; exact hm
theorem VR_mref {C : Cx} {id ep : Nat} {x : Value} {s : ByteArray → Bool} (h : VR C (.mref id ep) x) (hm : mapAt C.S id ep = some s) : x = .map (some (C.φ id)) := by
  simp only [VR] at h
  obtain ⟨b, rfl, -, hb⟩ := h
  rw [hb _ (mapAt_some hm) rfl]
theorem lkM_sound [Globs] {C : Cx} (hsr : SR C) {t : TypeId} {m k av : AV} {vm vk : Value} (hm : VR C m vm) (hk : VR C k vk) (h : lkM P t m k C.S = some av) : Has P C (Instr.lookup t vm vk false) av := by
  unfold lkM at h
  split at h
  · rename_i id ep x
    split at h
    · rename_i ht
      rw [Option.map_eq_some_iff] at h
      obtain ⟨s, hs, rfl⟩ := h
      obtain ⟨kt, et, i, hu, hku, hi, hz⟩ := setT_und ht
      obtain rfl := VR_mref hm hs
      simp only [VR] at hk
      subst hk
      obtain ⟨es, clock, hb, hok⟩ := mapAt_ent hsr hs
      rcases mapOk_look hok x with ⟨h1, h2, -⟩ | ⟨j, e, h1, -, -, h4, h5⟩
      · refine ⟨.bool false, ?_, by simp only [VR]; rw [h2]⟩
        simp [Instr.lookup, run_und hu, MapKept.run_getObj_map hb, run_check hku, run_find hku h1, zeroValue, typeInfo, hi, hz]
      · refine ⟨.bool true, ?_, by simp only [VR]; rw [h5]⟩
        simp [Instr.lookup, run_und hu, MapKept.run_getObj_map hb, run_check hku, run_find hku h1, h4]
    · cases h
  · cases h
theorem upM_sound [Globs] {C : Cx} (hsr : SR C) {t : TypeId} {m k v : AV} {vm vk vv : Value} {S' : List Ent} (hm : VR C m vm) (hk : VR C k vk) (hv : VR C v vv) (h : upM P t m k v C.S = some S') :
    ∃ C', (Instr.mapUpdate t vm vk vv).run P C.w = .ok () C'.w ∧ Le C C' ∧ SR C' ∧ C'.S = S' ∧ C'.tk = C.tk ∧ C'.n = C.n := by
  unfold upM at h
  split at h
  · rename_i id ep x
    split at h
    · rename_i ht
      rw [Option.map_eq_some_iff] at h
      obtain ⟨s, hs, rfl⟩ := h
      obtain ⟨kt, et, i, hu, hku, hi, hz⟩ := setT_und ht
      obtain rfl := VR_mref hm hs
      simp only [VR] at hk hv
      subst hk hv
      have he := mapAt_some hs
      obtain ⟨es, clock, hb, hok⟩ := mapAt_ent hsr hs
      rcases mapOk_look hok x with ⟨h1, h2, h3⟩ | ⟨j, e, h1, h2, h3, h4, h5⟩
      · refine ⟨C.putM id ep (es.push ⟨.string x, .bool true, clock⟩) (clock + 1) (addK s x), ?_, Le.putM hsr he hb, SR.putM hsr he hb (mapOk_push hok h3), rfl, rfl, rfl⟩
        simp [Instr.mapUpdate, run_und hu, MapKept.run_getObj_map hb, run_check hku, run_find hku h1, MapKept.run_setObj_map _ hb, Cx.putM, setBlock]
      · refine ⟨C.putM id ep es clock (addK s x), ?_, Le.putM hsr he hb, SR.putM hsr he hb (mapOk_same hok h5), rfl, rfl, rfl⟩
        have hj : es[j]? = some e := by simpa using h2
        have hst : (Instr.keyThatStays (.string x) (.string x)).run P C.w = .ok (.string x) C.w := by
          unfold Instr.keyThatStays
          rw [if_pos (by simp [Instr.sameBits, (MapKept.bytes_beq x x).2 rfl])]
          rfl
        simp [Instr.mapUpdate, run_und hu, MapKept.run_getObj_map hb, run_check hku, run_find hku h1, hj, h3, hst, MapKept.run_setObj_map _ hb, Cx.putM, setBlock, modify_self h2 h3 h4]
    · cases h
  · cases h
theorem dlM_sound [Globs] {C : Cx} (hsr : SR C) {t t' ty : TypeId} {m k : AV} {vm vk : Value} {S' : List Ent} (hm : VR C m vm) (hk : VR C k vk) (h : dlM P t m k C.S = some S') :
    ∃ C', (Builtin.delete_ #[t, t'] ty #[vm, vk]).run P C.w = .ok (.tuple #[]) C'.w ∧ Le C C' ∧ SR C' ∧ C'.S = S' ∧ C'.tk = C.tk ∧ C'.n = C.n := by
  unfold dlM at h
  split at h
  · rename_i id ep x
    split at h
    · rename_i ht
      rw [Option.map_eq_some_iff] at h
      obtain ⟨s, hs, rfl⟩ := h
      obtain ⟨kt, et, i, hu, hku, hi, hz⟩ := setT_und ht
      obtain rfl := VR_mref hm hs
      simp only [VR] at hk
      subst hk
      have he := mapAt_some hs
      obtain ⟨es, clock, hb, hok⟩ := mapAt_ent hsr hs
      rcases mapOk_look hok x with ⟨h1, h2, h3⟩ | ⟨j, e, h1, h2, h3, h4, h5⟩
      · refine ⟨C.putM id ep es clock (delK s x), ?_, Le.putM hsr he hb, SR.putM hsr he hb (mapOk_undel hok h2), rfl, rfl, rfl⟩
        simp [Builtin.delete_, run_und hu, MapKept.run_getObj_map hb, run_check hku, run_find hku h1, MapKept.run_setObj_map _ hb, Cx.putM, setBlock]
      · refine ⟨C.putM id ep (es.eraseIdxIfInBounds j) clock (delK s x), ?_, Le.putM hsr he hb, SR.putM hsr he hb (mapOk_erase hok h2 h3), rfl, rfl, rfl⟩
        simp [Builtin.delete_, run_und hu, MapKept.run_getObj_map hb, run_check hku, run_find hku h1, MapKept.run_setObj_map _ hb, Cx.putM, setBlock]
    · cases h
  · cases h
theorem one_cells {v : Value} (h : v.oneCell' = true) : v.cells = #[v] := by cases v <;> first | rfl | simp [Value.oneCell'] at h
theorem bsO_sound [Globs] {C : Cx} (hsr : SR C) {ρA : Operand → AV} {ρ : Operand → Value} (hρ : ∀ x, VR C (ρA x) (ρ x)) {t : TypeId} {len : Nat} {ps : Array (Nat × Operand)} {av : AV} {S' : List Ent} {n' : Nat} (h : bsO P t len (ps.toList.map fun (i, x) => (i, ρA x)) C.S C.n = some (av, S', n')) :
    ∃ v C', (Instr.buildSlice t len (ps.map fun (i, x) => (i, ρ x))).run P C.w = .ok v C'.w ∧ Le C C' ∧ SR C' ∧ C'.S = S' ∧ C'.tk = C.tk ∧ C'.n = n' ∧ VR C' av v := by
  unfold bsO at h
  split at h
  · rename_i ht
    simp only [Bool.and_eq_true, beq_iff_eq] at ht
    obtain ⟨ht, rfl⟩ := ht
    unfold two1 at ht
    split at ht
    · rename_i z0 e1 e2
      simp only [Option.bind_eq_some_iff] at e1 e2
      obtain ⟨el, he, hs⟩ := e1
      obtain ⟨el', he', hz⟩ := e2
      rw [he] at he'
      simp only [Option.some.injEq] at he'
      subst he'
      obtain ⟨zv, hz1, hz2⟩ := zeroOf_run (w := C.w) hz
      simp only [Option.map_eq_some_iff, Prod.mk.injEq] at h
      obtain ⟨cs, h, rfl, rfl, rfl⟩ := h
      unfold lit2 at h
      split at h
      · rename_i x y hps
        split at h
        · rename_i hl
          simp only [Bool.and_eq_true] at hl
          simp only [Option.some.injEq] at h
          subst h
          obtain ⟨a, b, hab, hxa, hyb⟩ : ∃ a b, ps.toList = [(0, a), (1, b)] ∧ ρA a = x ∧ ρA b = y := by
            match hq : ps.toList with
            | [(i, a), (j, b)] =>
              rw [hq] at hps
              simp only [List.map_cons, List.map_nil, List.cons.injEq, Prod.mk.injEq, and_true] at hps
              obtain ⟨⟨rfl, h2⟩, rfl, h3⟩ := hps
              exact ⟨a, b, rfl, h2, h3⟩
            | [] => rw [hq] at hps; simp at hps
            | [_] => rw [hq] at hps; simp at hps
            | _ :: _ :: _ :: _ => rw [hq] at hps; simp at hps
          subst hxa hyb
          have hvs : VRs C [ρA a, ρA b] [ρ a, ρ b] := by simp only [VRs, and_true]; exact ⟨hρ a, hρ b⟩
          have ha := leafs_one hvs (by simp [hl]) (ρ a) (by simp)
          have hb := leafs_one hvs (by simp [hl]) (ρ b) (by simp)
          have e3 : (ps.map fun (i, x) => (i, ρ x)).toList = [(0, ρ a), (1, ρ b)] := by simp [hab]
          have hzs : zv.cells.size = 1 := by
            have := congrArg List.length hz2
            simpa using this.symm
          have hfill : ∀ c0 c1 : Value, Instr.fill (fun i => some (i * 1, 1)) #[c0, c1] [(0, ρ a), (1, ρ b)] = some #[ρ a, ρ b] := by
            intro c0 c1
            simp [Instr.fill, one_cells ha, one_cells hb]
          have hrun : (Instr.buildSlice t 2 (ps.map fun (i, x) => (i, ρ x))).run P C.w = .ok (.slice (some ⟨C.w.heap.size, 0, none⟩) 2 2) (C.w.alloc (.cells #[ρ a, ρ b] el)) := by
            simp only [Instr.buildSlice, Sem.run_bind, run_und (elemOf_und he), run_siz hs, Result.andThen_ok, Sem.run_ite]
            rw [if_neg (by decide), if_neg (by decide)]
            simp only [Sem.run_bind, hz1, Result.andThen_ok, Sem.run_pure, e3]
            have hr : (Array.range (2 * 1)).map (fun i => zv.cells[i % zv.cells.size]!) = #[zv.cells[0]!, zv.cells[0]!] := by
              rw [hzs]; apply Array.ext'; simp [List.range_succ]
            rw [hr, hfill]
            simp [run_newRow]
          refine ⟨_, C.more #[ρ a, ρ b] el [ρA a, ρA b], hrun, Le.more hsr _ _ _, SR.moreP hsr ⟨[ρ a, ρ b], [], rfl, hvs⟩, rfl, rfl, rfl, ?_⟩
          simp only [VR]
          refine ⟨C.w.heap.size, _, 2, rfl, Nat.le_refl _, .inr rfl, Nat.lt_succ_self _, fun e' he' hep => ⟨by simp [Cx.more], #[ρ a, ρ b], el, heap_alloc_same _ _, by simp⟩⟩
        · cases h
      · cases h
    · cases ht
  · cases h
theorem mkM_sound {w : World} {t : TypeId} : (Instr.makeMap t none).run P w = .ok (.map (some w.heap.size)) (w.alloc (.map #[] 0)) := by
  rfl
end
end Go.Proofs.YtmkoiandfojgmaaGreat
namespace Go.Proofs.YtmkoiandfojgmaaGreat
open Go.RowKit
section
variable {P : Program}
theorem Le.take {C : Cx} (k : Nat) : Le C { C with S := C.S.take k } := by
  refine ⟨rfl, rfl, rfl, Nat.le_refl _, rfl, Nat.le_refl _, ?_, fun _ _ _ h _ => h, fun _ _ _ => rfl, fun _ cs _ _ h => ⟨cs, h, rfl⟩, ?_, fun _ q h => ⟨q, h, Nat.le_refl _, fun _ => rfl⟩⟩
  · rintro b o - (⟨i, hi, h⟩ | h)
    · exact .inl ⟨i, by simp at hi; omega, h⟩
    · exact .inr h
  · intro i e h _
    rw [nth_get, List.getElem?_take] at h
    split at h
    · exact ⟨e, by rw [nth_get]; exact h, rfl, rfl⟩
    · simp at h
theorem SR.take [Globs] {C : Cx} (hs : SR C) (k : Nat) : SR { C with S := C.S.take k } := by
  have hle := Le.take (C := C) k
  refine ⟨fun i e h => ?_, fun i j hi hj h => hs.ne i j (by simp at hi; omega) (by simp at hj; omega) h, hs.tok, fun i j o hi => hs.apart i j o (by simp at hi; omega), ?_, hs.avlt, hs.tlt, glob_le hs hle⟩
  · rw [nth_get, List.getElem?_take] at h
    split at h
    · have hx := hs.ent i e (by rw [nth_get]; exact h)
      exact ⟨hx.1, hx.2.move rfl (VRs.mono hle _)⟩
    · simp at h
  · rintro b o (⟨i, hi, h⟩ | h)
    · exact hs.own b o (.inl ⟨i, by simp at hi; omega, h⟩)
    · exact hs.own b o (.inr h)
def CallOk [Globs] (P : Program) (call : CallA) : Prop :=
  ∀ f args S tk n r S' tk' n', call f args S tk n = some (r, S', tk', n') → (∃ fn, P.funcs[f]? = some fn ∧ (fn.name == "runtime.NumGoroutine") = false ∧ fn.body.isNone = false) ∧
    ∀ (C : Cx) (vs : Array Value), C.S = S → C.tk = tk → C.n = n → SR C → VRs C args vs.toList →
      Calls P f vs C.w fun e w' => ∃ v C', e = .returned v ∧ C'.w = w' ∧ Le C C' ∧ SR C' ∧ C'.S = S' ∧ C'.tk = tk' ∧ C'.n = n' ∧ VR C' r v
theorem wp_value {o : Oper} {a : Act} {w w' : World} {v : Value} {next : Act → World → Prop} {Q : Exit → Act → World → Prop} (h : (execOp a.eval o).run P w = .ok (.value v) w') (hn : next (a.put o.dst v) w') : o.wp P a w next Q := by
  unfold Oper.wp; rw [h]; exact hn
theorem evO_sound [Globs] {call : CallA} (hc : CallOk P call) {C : Cx} {st st' : St} {a : Act} {o : Oper} {av : AV} (hr : Rel C st a) (h : evO P call o st = some (av, st')) {next : Act → World → Prop} {Q : Exit → Act → World → Prop}
    (hn : ∀ v C', Le C C' → SR C' → C'.S = st'.S → C'.tk = st'.tk → C'.n = st'.n → VR C' av v → next (a.put o.dst v) C'.w) : o.wp P a C.w next Q ∧ st'.T = st.T := by
  have hρ := VR_opv hr.tmps
  have quiet : ∀ av', evQ P o (opv st.T) = some av' → (av', st) = (av, st') → o.wp P a C.w next Q ∧ st'.T = st.T := by
    intro av' hq e
    simp only [Prod.mk.injEq] at e
    obtain ⟨rfl, rfl⟩ := e
    obtain ⟨v, w', h1, h2, h3⟩ := evQ_sound hr.sr hρ hq
    exact ⟨wp_value h1 (hn v (C.at w') (Le.of_below h2) (SR.of_below hr.sr h2) hr.S hr.tk hr.n h3), rfl⟩
  unfold evO at h
  split at h
  · rename_i t x e
    simp only [Option.map_eq_some_iff, Prod.mk.injEq] at h
    obtain ⟨v, h, rfl, rfl⟩ := h
    rw [← hr.S] at h
    obtain ⟨u, h1, h2⟩ := ldA_sound hr.sr (hρ x) h
    exact ⟨wp_value (v := u) (w' := C.w) (by simp [execOp, e, h1]) (hn u C (Le.refl C) hr.sr hr.S hr.tk hr.n h2), rfl⟩
  · rename_i t x y e
    simp only [Option.map_eq_some_iff, Prod.mk.injEq] at h
    obtain ⟨S', h, rfl, rfl⟩ := h
    rw [← hr.S] at h
    obtain ⟨C', h1, h2, h3, h4, h5, h6⟩ := stA_sound hr.sr (hρ x) (hρ y) h
    refine ⟨?_, rfl⟩
    unfold Oper.wp
    have : (execOp a.eval o).run P C.w = .ok .skip C'.w := by simp [execOp, e, h1]
    rw [this]
    exact hn undef C' h2 h3 h4 (h5.trans hr.tk) (h6.trans hr.n) (by simp only [VR])
  · rename_i t e
    simp only [Option.map_eq_some_iff, Prod.mk.injEq] at h
    obtain ⟨cs, h, rfl, rfl⟩ := h
    obtain ⟨zv, h1, rfl⟩ := zeroOf_run (w := C.w) h
    refine ⟨wp_value (v := .pointer (some ⟨C.w.heap.size, 0, none⟩)) (w' := C.w.alloc (.cells zv.cells t)) ?_ ?_, rfl⟩
    · simp only [execOp, e, Instr.alloc, Sem.run_bind, h1, Result.andThen_ok, newVar, run_newRow, Sem.run_pure]
    · have := hn (.pointer (some ⟨C.w.heap.size, 0, none⟩)) (C.more zv.cells t (zv.cells.toList.map cst1)) (Le.more hr.sr _ _ _) (SR.more hr.sr (VRs_cst1 _)) (by simp [Cx.more, hr.S, hr.n]) hr.tk (by simp [Cx.more, hr.n]) (by rw [← hr.S, ← hr.n]; exact VR_new)
      exact this
  · rename_i t x e
    simp only [Option.map_eq_some_iff, Prod.mk.injEq] at h
    obtain ⟨cs, h, rfl, rfl⟩ := h
    have hv := cellsOf_sound h (hρ x)
    refine ⟨wp_value (v := .pointer (some ⟨C.w.heap.size, 0, none⟩)) (w' := C.w.alloc (.cells (a.eval x).cells t)) ?_ ?_, rfl⟩
    · simp only [execOp, e, Instr.box, Sem.run_bind, Result.andThen_ok, newVar, run_newRow, Sem.run_pure]
    · have := hn (.pointer (some ⟨C.w.heap.size, 0, none⟩)) (C.more (a.eval x).cells t cs) (Le.more hr.sr _ _ _) (SR.more hr.sr hv) (by simp [Cx.more, hr.S, hr.n]) hr.tk (by simp [Cx.more, hr.n]) (by rw [← hr.S, ← hr.n]; exact VR_new)
      exact this
  · rename_i t l c e
    simp only [Option.map_eq_some_iff, Prod.exists] at h
    obtain ⟨l', sz, cs, h, hh⟩ := h
    obtain ⟨el, m, arr, r1, r2, r3, r4, r5⟩ := mkA_sound (hρ l) (hρ c) h
    have hrun : (execOp a.eval o).run P C.w = .ok (.value (.slice (some ⟨C.w.heap.size, 0, none⟩) l' m)) (C.w.alloc (.cells arr el)) := by simp [execOp, e, r1]
    have hb : Below C.w.heap.size C.w (C.w.alloc (.cells arr el)) := (Below.refl _ _).alloc (Nat.le_refl _) _
    have harr : cs.length = arr.size := by rw [← r2]; simp
    split at hh
    · rename_i hgrow
      simp only [Prod.mk.injEq] at hh
      obtain ⟨rfl, rfl⟩ := hh
      have hlm : l' * sz ≤ m * sz := Nat.mul_le_mul_right _ r3
      have hok : okCap C.tk .tight sz = true := rfl
      have hn' : NewTok C .tight C.w.heap.size (l' * sz) (m * sz) := .inr (.inl (Nat.le_refl _))
      have hle : Le C (C.tok (C.w.alloc (.cells arr el)) .tight (C.w.heap.size, l' * sz, m * sz)) :=
        Le.of_tok hok hn' rfl rfl rfl hb.size (fun x o v hv _ => by rw [Below.cell hb (cell_lt hv)]; exact hv) (fun x hlt _ => hb.block x hlt) (fun b d t fz hd => ⟨d, below_shape hb hd, rfl⟩)
      have hsr := SR.of_tok hr.sr hok hn' (fun _ => (Array.getElem?_eq_some_iff.1 (heap_alloc_same C.w (.cells arr el))).1) hle (fun i hi => hb.block _ (phi_lt hr.sr hi))
      have hcap : CapR (C.tok (C.w.alloc (.cells arr el)) .tight (C.w.heap.size, l' * sz, m * sz)) (.tok C.tk.length 0 sz) (some ⟨C.w.heap.size, 0, none⟩) l' m := capR_new (c := .tight) hok (.inr ⟨arr, el, rfl, rfl, heap_alloc_same _ _, by omega⟩)
      have hv : VR (C.tok (C.w.alloc (.cells arr el)) .tight (C.w.heap.size, l' * sz, m * sz)) (mkV (len0 l) st.tk.length l' sz cs) (.slice (some ⟨C.w.heap.size, 0, none⟩) l' m) := by
        unfold mkV
        split
        · rename_i hl0
          have hl' : l' = 0 := by
            cases l with
            | const v => cases v with
              | int k z =>
                unfold len0 at hl0
                split at hl0
                · rename_i k' he
                  simp only [Operand.const.injEq, Value.int.injEq] at he
                  obtain ⟨rfl, rfl⟩ := he
                  simp [opv, cst, cst1, intN] at r5; exact r5.symm
                · simp at hl0
              | _ => simp [len0] at hl0
            | _ => simp [len0] at hl0
          subst hl'
          simp only [VR]
          refine ⟨_, 0, m, rfl, rfl, Nat.zero_le _, ?_, .inl trivial⟩
          rw [← hr.tk]
          exact hcap
        · unfold rowsFz
          split
          · rename_i es hes
            split
            · rename_i hp
              obtain ⟨g1, g2, g3, g4⟩ := rowsAt_len hes
              simp only [tokA, VR]
              refine ⟨_, l', m, rfl, by simp [g1], r3, by rw [← hr.tk]; exact hcap, .inr ⟨C.w.heap.size, 0, sz, rfl, ?_⟩⟩
              obtain ⟨e1, e2, e3, e4, e5, e6, e7, e8, e9, e10, e11⟩ := tok_eq (w := C.w.alloc (.cells arr el)) (x := (C.w.heap.size, l' * sz, m * sz)) hok
              have hflat : (es.map (·.map w1)).flatten = ((arr.toList.map cst1).take (l' * sz)).map w1 := by rw [r2, ← g3, List.map_flatten]
              have hvs : VRs C ((arr.toList.map cst1).take (l' * sz)) (arr.toList.take (l' * sz)) := (VRs_take (VRs_cst1 _) (takeN_some (by rw [r2]; exact g4))).1
              refine PRows_lay (l := arr.toList.take (l' * sz)) (fun e he => ?_) ?_ (lie_of fun j v hj => ?_)
              · rw [List.mem_map] at he
                obtain ⟨e', he', rfl⟩ := he
                rw [List.length_map]; exact g2 e' he'
              · rw [hflat]
                refine PRs.stays hle.stays _ _ (PRs_of_VRs (C := C) ?_ (VRs_w1 hvs))
                rw [r2, ← g3, List.all_eq_true]
                intro c hc
                rw [List.mem_map] at hc
                obtain ⟨c', hc', rfl⟩ := hc
                rw [List.mem_flatten] at hc'
                obtain ⟨r, hr, hc'⟩ := hc'
                exact List.all_eq_true.1 (List.all_eq_true.1 hp r hr) c' hc'
              · rw [Nat.zero_add]
                have hjl : j < l' * sz := by
                  have := (List.getElem?_eq_some_iff.1 hj).1
                  simp at this; omega
                rw [List.getElem?_take_of_lt hjl] at hj
                constructor
                · rw [e1]
                  simp only [World.cell?, heap_alloc_same]
                  simpa using hj
                · rintro (hav | hm')
                  · rw [e2] at hav
                    have := hr.sr.avlt _ _ hav; omega
                  · rcases Mut_tok hok hn' hm' with h | ⟨-, h1, h2, -⟩
                    · exact hr.sr.fresh (Nat.le_refl _) (.inr h)
                    · omega
            · simp only [tokA, VR]
          · simp only [tokA, VR]
      exact ⟨wp_value hrun (hn _ _ hle hsr hr.S (by show C.tk ++ [0] = _; rw [hr.tk]) hr.n hv), rfl⟩
    · simp only [Prod.mk.injEq] at hh
      obtain ⟨rfl, rfl⟩ := hh
      subst r2
      refine ⟨wp_value hrun (hn _ (C.more arr el (arr.toList.map cst1)) (Le.more hr.sr _ _ _) (SR.more hr.sr (VRs_cst1 _)) (by simp [Cx.more, hr.S, hr.n]) hr.tk (by simp [Cx.more, hr.n]) ?_), rfl⟩
      simp only [VR]
      refine ⟨C.w.heap.size, some ⟨C.w.heap.size, 0, none⟩, m, rfl, r3, .inr rfl, by rw [← hr.n]; exact Nat.lt_succ_self _, fun e' he' hep => ⟨?_, arr, el, heap_alloc_same _ _, ?_⟩⟩
      · rw [← hr.S]
        simp [Cx.more]
      · simp only [List.length_map, Array.length_toList] at r4
        omega
  · rename_i t len ps e
    split at h
    · simp only [Option.map_eq_some_iff, Prod.mk.injEq, Prod.exists] at h
      obtain ⟨v, S', n', h, rfl, rfl⟩ := h
      rw [← hr.S, ← hr.n] at h
      obtain ⟨u, C', h1, h2, h3, h4, h5, h6, h7⟩ := bsO_sound hr.sr hρ h
      exact ⟨wp_value (v := u) (w' := C'.w) (by simp only [execOp, e, Sem.run_bind, h1, Result.andThen_ok, Sem.run_pure]) (hn u C' h2 h3 h4 (h5.trans hr.tk) h6 h7), rfl⟩
    · simp only [Option.map_eq_some_iff] at h
      obtain ⟨v, h, hh⟩ := h
      exact quiet v h hh
  · rename_i t e
    simp only [Option.map_eq_some_iff, Prod.mk.injEq] at h
    obtain ⟨_, h, rfl, rfl⟩ := h
    refine ⟨wp_value (v := .map (some C.w.heap.size)) (w' := C.w.alloc (.map #[] 0)) (by simp [execOp, e, mkM_sound]) ?_, rfl⟩
    exact hn (.map (some C.w.heap.size)) (C.moreM #[] 0 noK) (Le.moreM hr.sr _ _ _) (SR.moreM hr.sr mapOk_none) (by simp [Cx.moreM, hr.S, hr.n]) hr.tk (by simp [Cx.moreM, hr.n]) (by rw [← hr.S, ← hr.n]; exact VR_mnew)
  · rename_i t m k e
    simp only [Option.map_eq_some_iff, Prod.mk.injEq] at h
    obtain ⟨v, h, rfl, rfl⟩ := h
    rw [← hr.S] at h
    obtain ⟨u, h1, h2⟩ := lkM_sound hr.sr (hρ m) (hρ k) h
    exact ⟨wp_value (v := u) (w' := C.w) (by simp [execOp, e, h1]) (hn u C (Le.refl C) hr.sr hr.S hr.tk hr.n h2), rfl⟩
  · rename_i t m k x e
    simp only [Option.map_eq_some_iff, Prod.mk.injEq] at h
    obtain ⟨S', h, rfl, rfl⟩ := h
    rw [← hr.S] at h
    obtain ⟨C', h1, h2, h3, h4, h5, h6⟩ := upM_sound hr.sr (hρ m) (hρ k) (hρ x) h
    refine ⟨?_, rfl⟩
    unfold Oper.wp
    have : (execOp a.eval o).run P C.w = .ok .skip C'.w := by simp [execOp, e, h1]
    rw [this]
    exact hn undef C' h2 h3 h4 (h5.trans hr.tk) (h6.trans hr.n) (by simp only [VR])
  · rename_i c e
    split at h
    · rename_i hb
      split at h
      · rename_i m k t t' hxy ht
        simp only [Option.map_eq_some_iff, Prod.mk.injEq] at h
        obtain ⟨S', h, rfl, rfl⟩ := h
        have hargs := VRs_map hr.tmps c.args.toList
        rw [hxy] at hargs
        obtain ⟨ux, uy, hu⟩ := two_of hargs
        rw [hu] at hargs
        simp only [VRs, and_true] at hargs
        rw [← hr.S] at h
        obtain ⟨C', h1, h2, h3, h4, h5, h6⟩ := dlM_sound (ty := o.type) (t' := t') hr.sr hargs.1 hargs.2 h
        have ha : c.args.map a.eval = #[ux, uy] := by rw [← Array.toList_inj]; simp [hu]
        have hat : c.argTypes = #[t, t'] := by rw [← Array.toList_inj]; simp [ht]
        exact ⟨wp_value (v := .tuple #[]) (w' := C'.w) (by simp [execOp, e, resolve, hb, ha, invoke, builtin, hat, h1]) (hn _ C' h2 h3 h4 (h5.trans hr.tk) (h6.trans hr.n) (by simp only [VR]; exact ⟨#[], rfl, by simp [VRs]⟩)), rfl⟩
      · simp at h
    · rename_i hb
      split at h
      · rename_i x y t t' hxy ht
        split at h
        · split at h
          · rename_i htt
            subst htt
            simp only [Option.map_eq_some_iff, Prod.mk.injEq, Prod.exists] at h
            obtain ⟨v, S', n', h, rfl, rfl⟩ := h
            have hargs := VRs_map hr.tmps c.args.toList
            rw [hxy] at hargs
            obtain ⟨ux, uy, hu⟩ := two_of hargs
            rw [hu] at hargs
            simp only [VRs, and_true] at hargs
            rw [← hr.S, ← hr.n] at h
            obtain ⟨w, C', h1, h2, h3, h4, h5, h6, h7⟩ := apO_sound (ty := o.type) hr.sr hargs.1 hargs.2 h
            have ha : c.args.map a.eval = #[ux, uy] := by rw [← Array.toList_inj]; simp [hu]
            have hat : c.argTypes = #[t, t] := by rw [← Array.toList_inj]; simp [ht]
            exact ⟨wp_value (v := w) (w' := C'.w) (by simp [execOp, e, resolve, hb, ha, invoke, builtin, hat, h1]) (hn w C' h2 h3 h4 (h5.trans hr.tk) h6 h7), rfl⟩
          · simp at h
        split at h
        · rename_i htt
          subst htt
          simp only [Option.map_eq_some_iff, Prod.mk.injEq, Prod.exists] at h
          obtain ⟨v, tk', h, rfl, rfl⟩ := h
          have hargs := VRs_map hr.tmps c.args.toList
          rw [hxy] at hargs
          obtain ⟨ux, uy, hu⟩ : ∃ ux uy, c.args.toList.map a.eval = [ux, uy] := by
            have := VRs_length hargs
            match hl : c.args.toList.map a.eval with
            | [p, q] => exact ⟨p, q, rfl⟩
            | [] => rw [hl] at this; simp at this
            | [_] => rw [hl] at this; simp at this
            | _ :: _ :: _ :: _ => rw [hl] at this; simp at this
          rw [hu] at hargs
          simp only [VRs, and_true] at hargs
          rw [← hr.tk, ← hr.S] at h
          obtain ⟨w, C', h1, h2, h3, h4, h5, h6, h7⟩ := apB1_sound (ty := o.type) hr.sr hargs.1 hargs.2 h
          have ha : c.args.map a.eval = #[ux, uy] := by rw [← Array.toList_inj]; simp [hu]
          have hat : c.argTypes = #[t, t] := by rw [← Array.toList_inj]; simp [ht]
          exact ⟨wp_value (v := w) (w' := C'.w) (by simp [execOp, e, resolve, hb, ha, invoke, builtin, hat, h1]) (hn w C' h2 h3 (h4.trans hr.S) h5 (h6.trans hr.n) h7), rfl⟩
        · simp only [Option.map_eq_some_iff, Prod.mk.injEq, Prod.exists] at h
          obtain ⟨v, tk', h, rfl, rfl⟩ := h
          have hargs := VRs_map hr.tmps c.args.toList
          rw [hxy] at hargs
          obtain ⟨ux, uy, hu⟩ := two_of hargs
          rw [hu] at hargs
          simp only [VRs, and_true] at hargs
          rw [← hr.tk] at h
          obtain ⟨w, C', h1, h2, h3, h4, h5, h6, h7⟩ := apS_sound (ty := o.type) hr.sr hargs.1 hargs.2 h
          have ha : c.args.map a.eval = #[ux, uy] := by rw [← Array.toList_inj]; simp [hu]
          have hat : c.argTypes = #[t, t'] := by rw [← Array.toList_inj]; simp [ht]
          exact ⟨wp_value (v := w) (w' := C'.w) (by simp [execOp, e, resolve, hb, ha, invoke, builtin, hat, h1]) (hn w C' h2 h3 (h4.trans hr.S) h5 (h6.trans hr.n) h7), rfl⟩
      · simp at h
    · rename_i hb
      split at h
      · rename_i x y t t' hxy ht
        simp only [Option.map_eq_some_iff, Prod.mk.injEq, Prod.exists] at h
        obtain ⟨m, S', h, rfl, rfl⟩ := h
        have hargs := VRs_map hr.tmps c.args.toList
        rw [hxy] at hargs
        obtain ⟨ux, uy, hu⟩ := two_of hargs
        rw [hu] at hargs
        simp only [VRs, and_true] at hargs
        rw [← hr.S] at h
        obtain ⟨C', h1, h2, h3, h4, h5, h6⟩ := cpA_sound (ty := o.type) (t' := t') hr.sr hargs.1 hargs.2 h
        have ha : c.args.map a.eval = #[ux, uy] := by rw [← Array.toList_inj]; simp [hu]
        have hat : c.argTypes = #[t, t'] := by rw [← Array.toList_inj]; simp [ht]
        exact ⟨wp_value (v := .int .i64 (m : Int)) (w' := C'.w) (by simp [execOp, e, resolve, hb, ha, invoke, builtin, hat, h1]) (hn _ C' h2 h3 h4 (h5.trans hr.tk) (h6.trans hr.n) (by simp only [VR])), rfl⟩
      · simp at h
    · simp only [Option.map_eq_some_iff] at h
      obtain ⟨v, h, hh⟩ := h
      exact quiet v h hh
    · split at h
      · rename_i f args hca
        simp only [Option.map_eq_some_iff, Prod.mk.injEq, Prod.exists] at h
        obtain ⟨r, S', tk', n', h, rfl, rfl⟩ := h
        refine ⟨?_, rfl⟩
        unfold calleeA at hca
        split at hca
        · rename_i x m hx
          split at hca
          · rename_i ti vi hfx
            simp only [Option.map_eq_some_iff, Prod.mk.injEq] at hca
            obtain ⟨f', hm, rfl, rfl⟩ := hca
            have hfv := hρ x
            rw [hfx] at hfv
            simp only [VR] at hfv
            obtain ⟨u, hfv, hu⟩ := hfv
            obtain ⟨⟨fn, g1, g2, g3⟩, hcall⟩ := hc _ _ _ _ _ _ _ _ _ h
            have hargs : VRs C (vi :: c.args.toList.map (opv st.T)) (u :: c.args.toList.map a.eval) := by simp only [VRs]; exact ⟨hu, VRs_map hr.tmps c.args.toList⟩
            have hC := hcall C (#[u] ++ c.args.map a.eval) hr.S hr.tk hr.n hr.sr (by simpa using hargs)
            have hrun : (execOp a.eval o).run P C.w = .ok (.enter f' (#[u] ++ c.args.map a.eval)) C.w := by
              have hn1 : ¬ fn.name = "runtime.NumGoroutine" := by simpa using g2
              have hn3 : ¬ fn.body = none := by intro hh; rw [hh] at g3; simp at g3
              have hmr := method_run (P := P) (w := C.w) (u := u) hm
              have hz0 : (#[Value.iface ti u] ++ c.args.map a.eval)[0]? = some (.iface ti u) := by simp [Array.getElem?_append]
              have hz1 : (#[Value.iface ti u] ++ c.args.map a.eval).extract 1 (#[Value.iface ti u] ++ c.args.map a.eval).size = c.args.map a.eval := by
                apply Array.ext'; simp [List.take_of_length_le]
              simp only [execOp, e, resolve, hx, hfv, invoke, Sem.run_bind, Sem.run_pure, Result.andThen_ok, hz0, hz1, callMethod]
              simp [callFunc, hmr, g1, hn1, hn3]
            unfold Oper.wp
            rw [hrun]
            refine Calls.mono hC ?_
            rintro e' w' ⟨v, C', rfl, rfl, k1, k2, k3, k4, k5, k6⟩
            exact hn v C' k1 k2 k3 k4 k5 k6
          · simp at hca
        · rename_i x hx
          split at hca
          · rename_i f' caps hfx
            simp only [Option.some.injEq, Prod.mk.injEq] at hca
            obtain ⟨rfl, rfl⟩ := hca
            have hfv := hρ x
            rw [hfx] at hfv
            simp only [VR] at hfv
            obtain ⟨us, hfv, hcaps⟩ := hfv
            obtain ⟨⟨fn, g1, g2, g3⟩, hcall⟩ := hc _ _ _ _ _ _ _ _ _ h
            have hargs := VRs_append (VRs_map hr.tmps c.args.toList) hcaps
            have hC := hcall C (c.args.map a.eval ++ us) hr.S hr.tk hr.n hr.sr (by simpa using hargs)
            have hrun : (execOp a.eval o).run P C.w = .ok (.enter f' (c.args.map a.eval ++ us)) C.w := by
              have hn1 : ¬ fn.name = "runtime.NumGoroutine" := by simpa using g2
              have hn3 : ¬ fn.body = none := by intro hh; rw [hh] at g3; simp at g3
              simp [execOp, e, resolve, hx, hfv, Deferred.ofValue, invoke, callFunc, g1, hn1, hn3]
            unfold Oper.wp
            rw [hrun]
            refine Calls.mono hC ?_
            rintro e' w' ⟨v, C', rfl, rfl, k1, k2, k3, k4, k5, k6⟩
            exact hn v C' k1 k2 k3 k4 k5 k6
          · rename_i f' caps hfx
            simp only [Option.some.injEq, Prod.mk.injEq] at hca
            obtain ⟨rfl, rfl⟩ := hca
            have hfv := hρ x
            rw [hfx] at hfv
            simp only [VR] at hfv
            obtain ⟨us, hfv, hcaps⟩ := hfv
            obtain ⟨⟨fn, g1, g2, g3⟩, hcall⟩ := hc _ _ _ _ _ _ _ _ _ h
            have hargs := VRs_append hcaps (VRs_map hr.tmps c.args.toList)
            have hC := hcall C (us ++ c.args.map a.eval) hr.S hr.tk hr.n hr.sr (by simpa using hargs)
            have hrun : (execOp a.eval o).run P C.w = .ok (.enter f' (us ++ c.args.map a.eval)) C.w := by
              have hn1 : ¬ fn.name = "runtime.NumGoroutine" := by simpa using g2
              have hn3 : ¬ fn.body = none := by intro hh; rw [hh] at g3; simp at g3
              simp [execOp, e, resolve, hx, hfv, Deferred.ofValue, invoke, callFunc, g1, hn1, hn3]
            unfold Oper.wp
            rw [hrun]
            refine Calls.mono hC ?_
            rintro e' w' ⟨v, C', rfl, rfl, k1, k2, k3, k4, k5, k6⟩
            exact hn v C' k1 k2 k3 k4 k5 k6
          · simp at hca
        · simp at hca
      · simp at h
  · simp only [Option.map_eq_some_iff] at h
    obtain ⟨v, h, hh⟩ := h
    exact quiet v h hh
theorem wantA_sound {C : Cx} {T : List AV} {a : Act} {ops : Array Oper} {o : Oper} {b : Bool} (ht : VRs C T a.tmps.toList) (h : wantA ops.toList T o = some b) : Region.wanted o (yielded ops a.tmps) = b := by
  unfold wantA at h
  unfold Region.wanted
  split at h
  · rename_i hg; rw [hg]; simpa using h
  · rename_i g want hg
    rw [hg]
    simp only
    split at h
    · simp at h
    · rename_i d hd
      have hd' : (ops[g]?).bind (·.dst) = some d := by rw [nth_get] at hd; simpa using hd
      unfold yielded
      rw [hd']
      simp only [Option.bind_some]
      by_cases hlt : d < T.length
      · obtain ⟨v, h1, h2⟩ := VRs_at ht (getT_at hlt)
        have h1' : a.tmps[d]? = some v := by simpa using h1
        rw [h1']
        split at h
        · rename_i x hx
          rw [hx] at h2; simp only [VR] at h2; subst h2
          simpa using h
        · rename_i x hx
          rw [hx] at h2; simp only [VR] at h2; subst h2
          simpa using h
        · simp at h
      · rw [getT_out (Nat.le_of_not_lt hlt)] at h
        simp at h
theorem Rel.put [Globs] {C C' : Cx} {st st' : St} {a : Act} {d : Option Tmp} {v : Value} {av : AV} (hr : Rel C st a) (hle : Le C C') (hs : SR C') (h1 : C'.S = st'.S) (h2 : C'.tk = st'.tk) (h3 : C'.n = st'.n) (hv : VR C' av v) (hT : st'.T = st.T) :
    Rel C' { st' with T := putT st'.T d av } (a.put d v) :=
  ⟨h1, h2, h3, VRs_putT (by rw [hT]; exact VRs.mono hle _ _ hr.tmps) hv, by cases d <;> exact hr.defers, hs⟩
theorem evOs_sound [Globs] {call : CallA} (hc : CallOk P call) {ops : Array Oper} {Q : Exit → Act → World → Prop} : ∀ {l : List Oper} {C : Cx} {st st' : St} {a : Act}, Rel C st a → evOs P call ops.toList l st = some st' →
    (∀ a' C', Le C C' → Rel C' st' a' → Q .normal a' C'.w) → wpList P ops Q l a C.w
  | [], C, st, st', a, hr, h, hQ => by
    simp only [evOs, Option.some.injEq] at h; subst h
    exact hQ a C (Le.refl C) hr
  | o :: l, C, st, st', a, hr, h, hQ => by
    simp only [evOs] at h
    split at h
    · simp at h
    · rename_i hw
      have := wantA_sound hr.tmps hw
      unfold wpList
      rw [if_neg (by rw [this]; simp)]
      exact evOs_sound hc (hr.put (Le.refl C) hr.sr hr.S hr.tk hr.n (by simp only [VR]) rfl) h hQ
    · rename_i hw
      have := wantA_sound hr.tmps hw
      unfold wpList
      rw [if_pos this]
      split at h
      · rename_i v st1 ho
        split at h
        case isFalse => simp at h
        have hT : st1.T = st.T := (evO_sound (next := fun _ _ => True) (Q := Q) hc hr ho (fun _ _ _ _ _ _ _ _ => trivial)).2
        refine .inl (evO_sound hc hr ho fun u C' k1 k2 k3 k4 k5 k6 => ?_).1
        exact evOs_sound hc (hr.put k1 k2 k3 k4 k5 k6 hT) h fun a' C'' k hr' => hQ a' C'' (k1.trans k) hr'
      · simp at h
theorem wp_loop_idx {c : Code} {Q : Exit → Act → World → Prop} (J : Nat → Act → World → Prop) (round : ∀ n a w, J n a w → c.wp P (Exit.then (fun a' w' => ∃ m, m < n ∧ J m a' w') Q) a w) {n : Nat} {a : Act} {w : World} (h0 : J n a w) : (Code.loop c).wp P Q a w := by
  intro b k cs
  have key : ∀ n a w, J n a w → ∃ e a' w', Q e a' w' ∧ Arrives P (lone (b.at a (.code c :: .inLoop c :: k)) cs w) b k cs e a' w' := by
    intro n
    induction n using Nat.strongRecOn with
    | _ n ih =>
      intro a w hJ
      obtain ⟨e, a₁, w₁, hq, harr⟩ := round n a w hJ b (.inLoop c :: k) cs
      cases e with
      | normal =>
        obtain ⟨m, hlt, hJ₁⟩ := hq
        obtain ⟨e₂, a₂, w₂, hq₂, harr₂⟩ := ih m hlt a₁ w₁ hJ₁
        exact ⟨e₂, a₂, w₂, hq₂, .of_steps (Steps.trans harr (.one step_inLoop)) harr₂⟩
      | exit id => exact ⟨_, a₁, w₁, hq, .pass (x := .inLoop c) rfl (fun _ _ => .inl (by simp)) harr⟩
      | goto l => exact ⟨_, a₁, w₁, hq, .pass (x := .inLoop c) rfl (fun _ _ => .inl (by simp)) harr⟩
      | ret => exact ⟨_, a₁, w₁, hq, .pass (x := .inLoop c) rfl (fun _ _ => .inl (by simp)) harr⟩
      | panic ch => exact ⟨_, a₁, w₁, hq, .pass (x := .inLoop c) rfl (fun _ _ => .inl (by simp)) harr⟩
      | outgrown => exact ⟨_, a₁, w₁, hq, .pass (x := .inLoop c) rfl (fun _ _ => .inl (by simp)) harr⟩
  obtain ⟨e, a', w', hq, harr⟩ := key n a w h0
  exact ⟨e, a', w', hq, .of_steps (.one step_loop) harr⟩
def exOf : Ex → Exit
  | .normal => .normal
  | .exit id => .exit id
  | .ret => .ret
def IndepC [Globs] (call : CallA) : Prop := ∀ f args S tk n r S' tk' n', call f args S tk n = some (r, S', tk', n') → S' = S ∧ tk' = tk ∧ (shF f = true ∨ (n' = n ∧ ∀ S2 tk2 n2, call f args S2 tk2 n2 = some (r, S2, tk2, n2)))
def IndepX [Globs] (call : CallA) : Prop := ∀ f args S tk n r S' tk' n', call f args S tk n = some (r, S', tk', n') → (xF f && Globs.dr) = true ∨ (tkF f = true ∧ S' = S ∧ n' = n ∧ ∀ S2 n2, call f args S2 tk n2 = some (r, S2, tk', n2)) ∨ (S' = S ∧ tk' = tk ∧ (shF f = true ∨ (n' = n ∧ ∀ S2 tk2 n2, call f args S2 tk2 n2 = some (r, S2, tk2, n2))))
def extC (P : Program) [Ext P] : CallA := fun f args S tk n => if Ext.on P f = true then Ext.call P f args S tk n else none
def LpOk [Globs] (P : Program) [Ext P] : Prop := ∀ (c : Code) (st st' : St), rngT c = true → Ext.lp P c st = some st' → ∀ (C : Cx) (a : Act) (Q : Exit → Act → World → Prop), Rel C st a → (∀ a' C', Le C C' → Rel C' st' a' → Q .normal a' C'.w) → c.wp P Q a C.w
class ExtOk [Globs] (P : Program) [Ext P] : Prop where
  lps : LpOk P
  ok : CallOk P (extC P)
  indep : ∀ M, @IndepX (gM M) (@callP (gM M) P _ (extC P))
theorem callP_ok [Globs] [Ext P] {M : Md} {call : CallA} (h : CallOk P call) : CallOk P (@callP (gM M) P _ call) := by
  intro f args S tk n r S' tk' n' hh
  unfold callP at hh
  split at hh
  · exact h f args S tk n r S' tk' n' hh
  · simp at hh
def LateO (P : Program) (real ops : Array Oper) : Option (Nat × Oper) → Prop
  | none => real = ops
  | some (p, al) => real.size = ops.size ∧ (∀ i : Nat, i ≠ p → real[i]? = ops[i]?) ∧ (∀ (i : Nat) (o : Oper), ops[i]? = some o → isMk o = false) ∧ real[p]? = some al ∧ al.guard = none ∧ al.dst.isSome = true ∧ (∃ t cs, al.op = .alloc t ∧ zeroOf P t = some cs) ∧ ops[p]? = some { al with op := .move (.global 0) }
def reveal (P : Program) (lt : Option (Nat × Oper)) (st : St) : St :=
  match lt with
  | none => st
  | some (_, al) => match al.op with
    | .alloc t => { st with T := putT st.T al.dst (.ref st.S.length st.n 0), S := st.S ++ [⟨st.n, (zeroOf P t).getD []⟩], n := st.n + 1 }
    | _ => st
def DrawOk [Globs] (P : Program) (ok : St → List Oper → Bool) : Prop := P.follows .mixedOrders = true ∧
  ∀ (call : CallA), CallOk P call → ∀ (real ops : Array Oper) (lt : Option (Nat × Oper)), LateO P real ops lt → @IndepX (gM (mdOf ops.toList)) call → ∀ (C : Cx) (st st' : St) (a : Act) (Q : Exit → Act → World → Prop), ok st ops.toList = true → Rel C st a → @evOs (gM (mdOf ops.toList)) P call ops.toList ops.toList st = some st' →
    (∀ a' C', Le C C' → Rel C' (reveal P lt st') a' → Q .normal a' C'.w) → wpAny P .any real Q real.size (Array.replicate real.size false) a { C.w with drawn := C.w.drawn + 1 }
theorem lateIx_some : ∀ {L : List Oper} {p : Nat} {al : Oper} {x : Oper}, lateIx L = some (p, al) → isAl1 al = true ∧ L[p]? = some al ∧ (openL (L ++ [x])).length = L.length ∧ (openL (L ++ [x]))[p]? = some { al with op := .move (.global 0) } ∧ (∀ i, i ≠ p → (openL (L ++ [x]))[i]? = L[i]?) ∧ ∀ o ∈ openL (L ++ [x]), isMk o = false
  | [], _, _, _, h => by simp [lateIx] at h
  | o :: l, p, al, x, h => by
    have hop : ∀ (l : List Oper), openL (o :: l ++ [x]) = openO o :: openL (l ++ [x]) := fun l => by cases l <;> rfl
    have keep : ∀ (l : List Oper), l.any isMk = false → openL (l ++ [x]) = l := by
      intro l
      induction l with
      | nil => intro _; rfl
      | cons y l ih =>
        intro hl
        simp only [List.any_cons, Bool.or_eq_false_iff] at hl
        have e : openL (y :: l ++ [x]) = openO y :: openL (l ++ [x]) := by cases l <;> rfl
        rw [e, ih hl.2]
        unfold openO
        rw [if_neg (by rw [hl.1]; simp)]
    unfold lateIx at h
    rw [hop]
    split at h
    · rename_i hmk
      split at h
      · rename_i hc
        simp only [Bool.and_eq_true, Bool.not_eq_true'] at hc
        simp only [Option.some.injEq, Prod.mk.injEq] at h
        obtain ⟨rfl, rfl⟩ := h
        rw [keep l hc.2]
        refine ⟨hc.1, rfl, rfl, ?_, fun i hi => ?_, fun y hy => ?_⟩
        · unfold openO; rw [if_pos hmk]; rfl
        · cases i with
          | zero => exact absurd rfl hi
          | succ i => rfl
        · rcases List.mem_cons.1 hy with rfl | hy
          · unfold openO; rw [if_pos hmk]; rfl
          · simpa using List.any_eq_false.1 hc.2 y hy
      · cases h
    · rename_i hmk
      simp only [Option.map_eq_some_iff, Prod.mk.injEq, Prod.exists] at h
      obtain ⟨p', al', h, rfl, rfl⟩ := h
      obtain ⟨a1, a2, a3, a4, a5, a6⟩ := lateIx_some (x := x) h
      have e : openO o = o := by unfold openO; rw [if_neg hmk]
      rw [e]
      refine ⟨a1, a2, by simp [a3], a4, fun i hi => ?_, fun y hy => ?_⟩
      · cases i with
        | zero => rfl
        | succ i => exact a5 i (by omega)
      · rcases List.mem_cons.1 hy with rfl | hy
        · simpa using hmk
        · exact a6 y hy
theorem lateT_some [Globs] {L : List Oper} {p : Nat} {al o : Oper} (h : lateT L = some (p, al, o)) : ∃ a, L = a ++ [o] ∧ tailG a o = true ∧ isSt o = true ∧ lateIx a = some (p, al) := by
  unfold lateT at h
  split at h
  · rename_i o' ho
    split at h
    · rename_i ht
      simp only [Bool.and_eq_true] at ht
      simp only [Option.map_eq_some_iff, Prod.mk.injEq, Prod.exists] at h
      obtain ⟨p', al', h, rfl, rfl, rfl⟩ := h
      exact ⟨_, by rw [List.getLast?_eq_some_iff] at ho; obtain ⟨l, rfl⟩ := ho; simp, ht.1.2, ht.1.1, h⟩
    · cases h
  · cases h
theorem late_of {P : Program} {a : List Oper} {p : Nat} {al o : Oper} {t : TypeId} {cs : List AV} (h : lateIx a = some (p, al)) (ht : al.op = .alloc t) (hz : zeroOf P t = some cs) : LateO P a.toArray (openL (a ++ [o])).toArray (some (p, al)) := by
  obtain ⟨a1, a2, a3, a4, a5, a6⟩ := lateIx_some (x := o) h
  unfold isAl1 at a1
  simp only [Bool.and_eq_true, Option.isNone_iff_eq_none] at a1
  refine ⟨by simp [a3], fun i hi => ?_, fun i o' ho => ?_, by simpa using a2, a1.1.2, a1.2, ⟨t, cs, ht, hz⟩, by simpa using a4⟩
  · have := a5 i hi
    simp only [List.getElem?_toArray]
    exact this.symm
  · exact a6 o' (List.mem_of_getElem? (by simpa using ho))
theorem splitT_some {L a : List Oper} {o : Oper} (h : splitT L = some (a, o)) : L = a ++ [o] ∧ tailOk a o = true := by
  unfold splitT at h
  split at h
  · rename_i o' ho
    split at h
    · rename_i ht
      simp only [Option.some.injEq, Prod.mk.injEq] at h
      obtain ⟨rfl, rfl⟩ := h
      exact ⟨by rw [List.getLast?_eq_some_iff] at ho; obtain ⟨l, rfl⟩ := ho; simp, ht⟩
    · cases h
  · cases h
theorem cut_take {kp : Bool} {m : Nat} {S : List Ent} : cutS kp m S = S.take (bif kp then S.length else m) := by
  cases kp <;> simp [cutS]
theorem loopA_sound [Globs] {kp : Bool} {f : St → Option (Ex × St)} {c : Code} (hf : ∀ (C : Cx) (st : St) (ex : Ex) (st' : St) (a : Act) (Q : Exit → Act → World → Prop), f st = some (ex, st') → Rel C st a → (∀ a' C', Le C C' → Rel C' st' a' → Q (exOf ex) a' C'.w) → c.wp P Q a C.w)
    {k : Nat} {C : Cx} {st st' : St} {ex : Ex} {a : Act} {Q : Exit → Act → World → Prop} (h : loopA kp f k st = some (ex, st')) (hr : Rel C st a) (hQ : ∀ a' C', Le C C' → Rel C' st' a' → Q (exOf ex) a' C'.w) : (Code.loop c).wp P Q a C.w := by
  refine wp_loop_idx (fun n a w => ∃ C1 st1, C1.w = w ∧ Le C C1 ∧ Rel C1 st1 a ∧ loopA kp f n st1 = some (ex, st')) ?_ (n := k) ⟨C, st, rfl, Le.refl C, hr, h⟩
  rintro n a1 w1 ⟨C1, st1, rfl, hle, hr1, h1⟩
  cases n with
  | zero => simp [loopA] at h1
  | succ n =>
    simp only [loopA] at h1
    split at h1
    · rename_i st2 h2
      refine hf C1 st1 .normal st2 a1 _ h2 hr1 fun a2 C2 hle2 hr2 => ?_
      rw [cut_take] at h1
      generalize (bif kp then st2.S.length else st1.S.length) = mm at h1
      refine ⟨n, Nat.lt_succ_self n, { C2 with S := C2.S.take mm }, { st2 with S := st2.S.take mm }, rfl, (hle.trans hle2).trans (Le.take _), ⟨by rw [hr2.S], hr2.tk, hr2.n, VRs.mono (Le.take _) _ _ hr2.tmps, hr2.defers, hr2.sr.take _⟩, h1⟩
    · rename_i hne
      refine hf C1 st1 ex st' a1 _ h1 hr1 fun a2 C2 hle2 hr2 => ?_
      have := hQ a2 C2 (hle.trans hle2) hr2
      cases ex with
      | normal => exact absurd h1 (hne st')
      | exit id => exact this
      | ret => exact this
theorem evC_sound [Globs] [Ext P] {call : CallA} (hc : CallOk P call) (hi : ∀ M, @IndepX (gM M) (@callP (gM M) P _ call)) {ok : St → List Oper → Bool} (hd : DrawOk P ok) (hl : LpOk P) {n : Nat} : ∀ (c : Code) (C : Cx) (st : St) (ex : Ex) (st' : St) (a : Act) (Q : Exit → Act → World → Prop), evC P call ok n c st = some (ex, st') → Rel C st a →
    (∀ a' C', Le C C' → Rel C' st' a' → Q (exOf ex) a' C'.w) → c.wp P Q a C.w
  | .skip, C, st, ex, st', a, Q, h, hr, hQ => by
    simp only [evC, Option.some.injEq, Prod.mk.injEq] at h
    obtain ⟨rfl, rfl⟩ := h
    exact wp_skip (hQ a C (Le.refl C) hr)
  | .region id ops draw, C, st, ex, st', a, Q, h, hr, hQ => by
    simp only [evC] at h
    cases draw with
    | false =>
      rw [if_neg (by simp)] at h
      simp only [Option.map_eq_some_iff, Prod.mk.injEq] at h
      obtain ⟨st1, h, rfl, rfl⟩ := h
      refine wp_region ?_
      have := evOs_sound (Q := Q) hc hr h hQ
      have e := wpOps_eq_wpList (P := P) (ops := ops) (Q := Q) ops.toList 0 (fun j => by simp)
      rw [List.range_eq_range']
      simp only [Array.length_toList] at e
      rw [e]; exact this
    | true =>
      rw [if_pos rfl] at h
      split at h
      · rename_i ini o hsp
        obtain ⟨hL, ht⟩ := splitT_some hsp
        split at h
        · rename_i hok
          split at h
          · rename_i st1 h1
            simp only [Option.map_eq_some_iff, Prod.mk.injEq] at h
            obtain ⟨st2, h2, rfl, rfl⟩ := h
            unfold tailOk at ht
            simp only [Bool.and_eq_true, List.all_eq_true, List.mem_range, decide_eq_true_eq, Option.isNone_iff_eq_none] at ht
            obtain ⟨⟨⟨⟨-, hg⟩, hre⟩, hla⟩, hde⟩ := ht
            have hops : ops = ini.toArray.push o := by
              apply Array.ext'
              rw [hL]; simp
            subst hops
            have hpush : ini.toArray.push o = (ini ++ [o]).toArray := by simp
            refine wp_region_any hd.1 ?_
            have hw := hd.2 _ (callP_ok hc) ini.toArray ini.toArray none rfl (hi _) C st st1 a (tailQ P o Q) (by simpa using hok) hr (by simpa using h1) fun a' C' hle hr' => by
              show o.wp P a' C'.w (fun a' w' => Q .normal a' w') Q
              simp only [evOs, wantA, hg] at h2
              split at h2
              · rename_i v s3 ho
                split at h2
                case isFalse => simp at h2
                have hT : s3.T = st1.T := (evO_sound (next := fun _ _ => True) (Q := Q) hc hr' ho (fun _ _ _ _ _ _ _ _ => trivial)).2
                refine (evO_sound hc hr' ho fun u C2 k1 k2 k3 k4 k5 k6 => ?_).1
                simp only [Option.some.injEq] at h2
                subst h2
                exact hQ _ C2 (hle.trans k1) (hr'.put k1 k2 k3 k4 k5 k6 hT)
              · simp at h2
            have hsz : (ini.toArray.push o).size = ini.toArray.size + 1 := by simp
            rw [hsz]
            have hrep : Array.replicate (ini.toArray.size + 1) false = (Array.replicate ini.toArray.size false).push false := by
              rw [Array.replicate_succ]
            rw [hrep]
            refine any_tail hg (fun j hj => ?_) (fun e he => ?_) (fun i o' ho' => ?_) _ _ _ _ (by simp) (fun j hj => ?_) hw
            · have := hre j (by simpa using hj)
              rw [hpush]; simpa using this
            · have := hla e (by rw [hpush] at he; simpa using he)
              simpa using this
            · have hil := (Array.getElem?_eq_some_iff.1 ho').1
              have := hde i (by simpa using hil)
              rw [ho'] at this
              refine ⟨fun e he => this.1 e he, fun g w hgw => ?_⟩
              have h3 := this.2
              simp only [hgw] at h3
              simpa using h3
            · rw [Array.getD_eq_getD_getElem?, Array.getElem?_replicate] at hj
              split at hj <;> simp at hj
          · simp at h
        · simp at h
      · split at h
        · rename_i p al o hlt
          obtain ⟨ini, hL, ht, hst, hix⟩ := lateT_some hlt
          rw [hL] at h
          split at h
          · rename_i hok
            split at h
            · rename_i st1 h1
              simp only [Option.map_eq_some_iff, Prod.mk.injEq] at h
              obtain ⟨st2, h2, rfl, rfl⟩ := h
              unfold tailG at ht
              simp only [Bool.and_eq_true, List.all_eq_true, List.mem_range, decide_eq_true_eq, Option.isNone_iff_eq_none] at ht
              obtain ⟨⟨⟨hg, hre⟩, hla⟩, hde⟩ := ht
              have hal := (lateIx_some (x := o) hix).1
              unfold isAl1 at hal
              simp only [Bool.and_eq_true, Option.isNone_iff_eq_none] at hal
              obtain ⟨t, hta⟩ : ∃ t, al.op = .alloc t := by
                have := hal.1.1
                split at this
                · rename_i t h; exact ⟨t, h⟩
                · cases this
              have hgal := hal.1.2
              -- the variable, then the last
              simp only [evOs, wantA, hgal] at h2
              split at h2
              case h_2 => simp at h2
              rename_i v s3 hov
              split at h2
              case isFalse => simp at h2
              have hov' := hov
              simp only [evO, hta, Option.map_eq_some_iff, Prod.mk.injEq] at hov'
              obtain ⟨cs, hz, rfl, rfl⟩ := hov'
              have hrev : ({ T := putT st1.T al.dst (.ref st1.S.length st1.n 0), S := st1.S ++ [⟨st1.n, cs⟩], tk := st1.tk, n := st1.n + 1 } : St) = reveal P (some (p, al)) st1 := by
                simp only [reveal, hta, hz, Option.getD_some]
              simp only at h2
              rw [hrev] at h2
              have hops : ops = ini.toArray.push o := by
                apply Array.ext'
                rw [hL]; simp
              subst hops
              have hpush : ini.toArray.push o = (ini ++ [o]).toArray := by simp
              refine wp_region_any hd.1 ?_
              have hw := hd.2 _ (callP_ok hc) ini.toArray (openL (ini ++ [o])).toArray (some (p, al)) (late_of hix hta hz) (hi _) C st st1 a (tailQ P o Q) (by simpa using hok) hr (by simpa using h1) fun a' C' hle hr' => by
                show o.wp P a' C'.w (fun a' w' => Q .normal a' w') Q
                simp only [hg] at h2
                split at h2
                · rename_i v s3 ho
                  split at h2
                  case isFalse => simp at h2
                  have hT : s3.T = (reveal P (some (p, al)) st1).T := (evO_sound (next := fun _ _ => True) (Q := Q) hc hr' ho (fun _ _ _ _ _ _ _ _ => trivial)).2
                  refine (evO_sound hc hr' ho fun u C2 k1 k2 k3 k4 k5 k6 => ?_).1
                  simp only [Option.some.injEq] at h2
                  subst h2
                  exact hQ _ C2 (hle.trans k1) (hr'.put k1 k2 k3 k4 k5 k6 hT)
                · simp at h2
              have hsz : (ini.toArray.push o).size = ini.toArray.size + 1 := by simp
              rw [hsz]
              have hrep : Array.replicate (ini.toArray.size + 1) false = (Array.replicate ini.toArray.size false).push false := by
                rw [Array.replicate_succ]
              rw [hrep]
              refine any_tail hg (fun j hj => ?_) (fun e he => ?_) (fun i o' ho' => ?_) _ _ _ _ (by simp) (fun j hj => ?_) hw
              · have := hre j (by simpa using hj)
                rw [hpush]; simpa using this
              · have := hla e (by rw [hpush] at he; simpa using he)
                simpa using this
              · have hil := (Array.getElem?_eq_some_iff.1 ho').1
                have := hde i (by simpa using hil)
                rw [ho'] at this
                refine ⟨fun e he => this.1 e he, fun g w hgw => ?_⟩
                have h3 := this.2
                simp only [hgw] at h3
                simpa using h3
              · rw [Array.getD_eq_getD_getElem?, Array.getElem?_replicate] at hj
                split at hj <;> simp at hj
            · simp at h
          · simp at h
        · split at h
          · rename_i hok
            simp only [Option.map_eq_some_iff, Prod.mk.injEq] at h
            obtain ⟨st1, h, rfl, rfl⟩ := h
            exact wp_region_any hd.1 (hd.2 _ (callP_ok hc) ops ops none rfl (hi _) C st st1 a Q hok hr h hQ)
          · simp at h
  | .seq x y, C, st, ex, st', a, Q, h, hr, hQ => by
    simp only [evC] at h
    cases hrg : rngT (.seq x y) with
    | true =>
      rw [hrg] at h
      simp only [cond_true, Option.map_eq_some_iff, Prod.mk.injEq] at h
      obtain ⟨st1, h, rfl, rfl⟩ := h
      exact hl _ _ _ hrg h C a Q hr hQ
    | false =>
    rw [hrg] at h
    simp only [cond_false] at h
    split at h
    · rename_i st1 h1
      refine wp_seq (evC_sound hc hi hd hl x C st .normal st1 a _ h1 hr fun a1 C1 hle1 hr1 => ?_)
      exact evC_sound hc hi hd hl y C1 st1 ex st' a1 Q h hr1 fun a2 C2 hle2 hr2 => hQ a2 C2 (hle1.trans hle2) hr2
    · rename_i hne
      refine wp_seq (evC_sound hc hi hd hl x C st ex st' a _ h hr fun a1 C1 hle1 hr1 => ?_)
      have := hQ a1 C1 hle1 hr1
      cases ex with
      | normal => exact absurd h (hne st')
      | exit id => exact this
      | ret => exact this
  | .cond x y z, C, st, ex, st', a, Q, h, hr, hQ => by
    simp only [evC] at h
    split at h
    · rename_i t ht
      have hv := VR_opv hr.tmps x
      rw [ht] at hv; simp only [VR] at hv
      cases t with
      | true =>
        rw [if_pos rfl] at h
        exact wp_cond_true hv (evC_sound hc hi hd hl y C st ex st' a Q h hr hQ)
      | false =>
        rw [if_neg (by simp)] at h
        exact wp_cond_false hv (evC_sound hc hi hd hl z C st ex st' a Q h hr hQ)
    · simp at h
  | .block id x, C, st, ex, st', a, Q, h, hr, hQ => by
    simp only [evC] at h
    split at h
    · rename_i id' st1 h1
      refine wp_block (evC_sound hc hi hd hl x C st (.exit id') st1 a _ h1 hr fun a1 C1 hle1 hr1 => ?_)
      simp only [exOf, Exit.inBlock]
      split at h
      · rename_i hid
        simp only [Option.some.injEq, Prod.mk.injEq] at h
        obtain ⟨rfl, rfl⟩ := h
        rw [if_pos hid]; exact hQ a1 C1 hle1 hr1
      · rename_i hid
        simp only [Option.some.injEq, Prod.mk.injEq] at h
        obtain ⟨rfl, rfl⟩ := h
        rw [if_neg hid]; exact hQ a1 C1 hle1 hr1
    · rename_i hne
      refine wp_block (evC_sound hc hi hd hl x C st ex st' a _ h hr fun a1 C1 hle1 hr1 => ?_)
      have := hQ a1 C1 hle1 hr1
      cases ex with
      | normal => exact this
      | exit id => exact absurd h (hne id st')
      | ret => exact this
  | .loop x, C, st, ex, st', a, Q, h, hr, hQ => by
    simp only [evC] at h
    exact loopA_sound (fun C st ex st' a Q => evC_sound hc hi hd hl x C st ex st' a Q) h hr hQ
  | .exit id, C, st, ex, st', a, Q, h, hr, hQ => by
    simp only [evC, Option.some.injEq, Prod.mk.injEq] at h
    obtain ⟨rfl, rfl⟩ := h
    exact wp_exit (hQ a C (Le.refl C) hr)
  | .ret, C, st, ex, st', a, Q, h, hr, hQ => by
    simp only [evC, Option.some.injEq, Prod.mk.injEq] at h
    obtain ⟨rfl, rfl⟩ := h
    exact wp_ret (hQ a C (Le.refl C) hr)
  | .rangeFunc _ _ _ _, _, _, _, _, _, _, h, _, _ => by simp [evC] at h
  | .scope x, C, st, ex, st', a, Q, h, hr, hQ => by
    simp only [evC] at h
    refine wp_scope_straight (evC_sound hc hi hd hl x C st ex st' a _ h hr fun a1 C1 hle1 hr1 => ?_)
    have := hQ a1 C1 hle1 hr1
    cases ex <;> exact this
  | .label l, C, st, ex, st', a, Q, h, hr, hQ => by
    simp only [evC, Option.some.injEq, Prod.mk.injEq] at h
    obtain ⟨rfl, rfl⟩ := h
    exact wp_label (hQ a C (Le.refl C) hr)
  | .goto _, _, _, _, _, _, _, h, _, _ => by simp [evC] at h
  | .refuse _, _, _, _, _, _, _, h, _, _ => by simp [evC] at h
end
end Go.Proofs.YtmkoiandfojgmaaGreat
namespace Go.Proofs.YtmkoiandfojgmaaGreat
open Go.RowKit
section
variable {P : Program}
def resOne (P : Program) (tmps : Array Value) : ResultVar → Sem Value
  | .tmp t => pure (tmps.getD t undef)
  | .cell a t => do loadVar t (← asAddr (tmps.getD a undef))
theorem VR_get {C : Cx} {T : List AV} {tmps : Array Value} (h : VRs C T tmps.toList) (t : Tmp) : VR C (getT T t) (tmps.getD t undef) :=
  VR_opv (a := ⟨tmps, []⟩) h (.tmp t)
theorem resA1_sound [Globs] {C : Cx} {st : St} {a : Act} (hr : Rel C st a) {rv : ResultVar} {v : AV} (h : resA1 P st rv = some v) : Has P C (resOne P a.tmps rv) v := by
  cases rv with
  | tmp t =>
    simp only [resA1, Option.some.injEq] at h; subst h
    exact ⟨_, rfl, VR_get hr.tmps t⟩
  | cell p t =>
    simp only [resA1] at h
    rw [← hr.S] at h
    obtain ⟨u, h1, h2⟩ := ldA_sound hr.sr (VR_get hr.tmps p) h
    refine ⟨u, ?_, h2⟩
    simp only [resOne]
    generalize a.tmps.getD p undef = x at h1
    cases x with
    | pointer b =>
      cases b with
      | none => simp [Instr.loadAt, Instr.sureAddr] at h1
      | some b => simpa [Instr.loadAt, Instr.sureAddr, asAddr] using h1
    | _ => simp [Instr.loadAt, Instr.sureAddr] at h1
theorem mapO_res [Globs] {C : Cx} {st : St} {a : Act} (hr : Rel C st a) : ∀ {rs : List ResultVar} {vs : List AV}, mapO (resA1 P st) rs = some vs → ∃ us, (rs.mapM (resOne P a.tmps)).run P C.w = .ok us C.w ∧ VRs C vs us
  | [], vs, h => by
    simp only [mapO, Option.some.injEq] at h; subst h
    exact ⟨[], by simp, by simp only [VRs]⟩
  | r :: rs, vs, h => by
    simp only [mapO] at h
    split at h
    · rename_i b l h1 h2
      simp only [Option.some.injEq] at h; subst h
      obtain ⟨u, g1, g2⟩ := resA1_sound hr h1
      obtain ⟨us, g3, g4⟩ := mapO_res hr h2
      exact ⟨u :: us, by rw [List.mapM_cons]; simp only [Sem.run_bind, g1, Result.andThen_ok, g3, Sem.run_pure], by simp only [VRs]; exact ⟨g2, g4⟩⟩
    · simp at h
theorem resA_sound [Globs] {C : Cx} {st : St} {a : Act} (hr : Rel C st a) {fn : Func} {v : AV} (h : resA P fn.results.toList st = some v) : Has P C (results fn a.tmps) v := by
  simp only [resA, Option.map_eq_some_iff] at h
  obtain ⟨vs, h, rfl⟩ := h
  obtain ⟨us, h1, h2⟩ := mapO_res hr h
  have hrun : (results fn a.tmps).run P C.w = .ok (if h : us.toArray.size = 1 then us.toArray[0] else .tuple us.toArray) C.w := by
    have e : results fn a.tmps = (do
      let vs ← fn.results.mapM (resOne P a.tmps)
      pure (if h : vs.size = 1 then vs[0] else .tuple vs)) := by
      unfold results
      congr 1
    rw [e, Sem.run_bind, Array.mapM_eq_mapM_toList, Sem.run_map, h1]
    rfl
  have hlen := VRs_length h2
  match us, vs, h2, hlen, hrun with
  | [u], [v], h2, _, hrun =>
    simp only [VRs] at h2
    exact ⟨u, by rw [hrun]; simp, h2.1⟩
  | [], [], h2, _, hrun => exact ⟨.tuple #[], by rw [hrun]; simp, by simp only [oneOf, VR]; exact ⟨_, rfl, h2⟩⟩
  | u :: u' :: us, v :: v' :: vs, h2, _, hrun => exact ⟨.tuple (u :: u' :: us).toArray, by rw [hrun]; simp, by simp only [oneOf, VR]; exact ⟨_, rfl, h2⟩⟩
theorem VR_w3 {C : Cx} {c x} (h : VR C c x) : VR C (w3 c) x := by
  cases c with
  | tup cs =>
    simp only [w3, VR] at h ⊢
    obtain ⟨vs, e, hr⟩ := h
    exact ⟨vs, e, VRs_w2 hr⟩
  | _ => exact VR_w2 h
theorem pure1_move {C C' : Cx} {c x} (hst : Stays C.w C'.w C.Avoid C'.Avoid) (hp : pure1 c = true) (h : VR C c x) : VR C' c x := VR_of_PR (PR.stays hst _ _ (PR_of_VR hp h))
theorem pures1_move {C C' : Cx} (hst : Stays C.w C'.w C.Avoid C'.Avoid) : ∀ {cs vs}, cs.all pure1 = true → VRs C cs vs → VRs C' cs vs
  | [], [], _, _ => by simp only [VRs]
  | c :: cs, v :: vs, hp, h => by
    simp only [List.all_cons, Bool.and_eq_true] at hp
    simp only [VRs] at h ⊢
    exact ⟨pure1_move hst hp.1 h.1, pures1_move hst hp.2 h.2⟩
  | [], _ :: _, _, h => by simp only [VRs] at h
  | _ :: _, [], _, h => by simp only [VRs] at h
theorem pure2_move {C C' : Cx} {c x} (hst : Stays C.w C'.w C.Avoid C'.Avoid) (hp : pure2 c = true) (h : VR C c x) : VR C' c x := by
  cases c with
  | agg cs =>
    simp only [VR] at h ⊢
    obtain ⟨vs, e, hr⟩ := h
    exact ⟨vs, e, pures1_move hst hp hr⟩
  | _ => exact pure1_move hst hp h
theorem pures2_move {C C' : Cx} (hst : Stays C.w C'.w C.Avoid C'.Avoid) : ∀ {cs vs}, cs.all pure2 = true → VRs C cs vs → VRs C' cs vs
  | [], [], _, _ => by simp only [VRs]
  | c :: cs, v :: vs, hp, h => by
    simp only [List.all_cons, Bool.and_eq_true] at hp
    simp only [VRs] at h ⊢
    exact ⟨pure2_move hst hp.1 h.1, pures2_move hst hp.2 h.2⟩
  | [], _ :: _, _, h => by simp only [VRs] at h
  | _ :: _, [], _, h => by simp only [VRs] at h
theorem pure3_move {C C' : Cx} {c x} (hst : Stays C.w C'.w C.Avoid C'.Avoid) (hp : pure3 c = true) (h : VR C c x) : VR C' c x := by
  cases c with
  | tup cs =>
    simp only [VR] at h ⊢
    obtain ⟨vs, e, hr⟩ := h
    exact ⟨vs, e, pures2_move hst hp hr⟩
  | _ => exact pure2_move hst hp h
theorem VRs_bots {C : Cx} : ∀ n : Nat, VRs C (List.replicate n AV.bot) (List.replicate n undef)
  | 0 => by simp [VRs]
  | n + 1 => by simp only [List.replicate_succ, VRs, VR]; exact ⟨trivial, VRs_bots n⟩
theorem body_sound [Globs] [Ext P] {call : CallA} (hc : CallOk P call) (hi : ∀ M, @IndepX (gM M) (@callP (gM M) P _ call)) {ok : St → List Oper → Bool} (hd : DrawOk P ok) (hl : LpOk P) {k : Nat} {f : FuncId} {fn : Func} {c : Code} (hf : P.funcs[f]? = some fn) (hb : fn.body = some c) {C : Cx} (hs : SR C) {args : List AV} {vs : Array Value} (hv : VRs C args vs.toList) {r : AV} {st : St}
    (h : outA P fn (evC P call ok k c ⟨args ++ List.replicate (fn.ntmps - args.length) .bot, C.S, C.tk, C.n⟩) = some (r, st)) :
    Calls P f vs C.w fun e w' => ∃ v C', e = .returned v ∧ C'.w = w' ∧ Le C C' ∧ SR C' ∧ C'.S = st.S ∧ C'.tk = st.tk ∧ C'.n = st.n ∧ VR C' r v := by
  have hlen : vs.size = args.length := by have := VRs_length hv; simpa using this.symm
  refine calls_of_wp hf hb ?_
  have hrel : Rel C ⟨args ++ List.replicate (fn.ntmps - args.length) .bot, C.S, C.tk, C.n⟩ { tmps := vs ++ Array.replicate (fn.ntmps - vs.size) undef, defers := [] } :=
    ⟨rfl, rfl, rfl, by rw [hlen]; simpa using VRs_append hv (VRs_bots _), rfl, hs⟩
  have fin : ∀ {ex : Ex} {st' : St}, (ex = .normal ∨ ex = .ret) → (resA P fn.results.toList st').map (fun r => (r, st')) = some (r, st) → ∀ a' C', Le C C' → Rel C' st' a' →
      bodyPost P fn (fun e w' => ∃ v C', e = .returned v ∧ C'.w = w' ∧ Le C C' ∧ SR C' ∧ C'.S = st.S ∧ C'.tk = st.tk ∧ C'.n = st.n ∧ VR C' r v) (exOf ex) a' C'.w := by
    intro ex st' hex he a' C' hle hr
    simp only [Option.map_eq_some_iff, Prod.mk.injEq] at he
    obtain ⟨r', he, rfl, rfl⟩ := he
    obtain ⟨v, h1, h2⟩ := resA_sound hr he
    rcases hex with rfl | rfl
    · exact ⟨hr.defers, v, h1, v, C', rfl, rfl, hle, hr.sr, hr.S, hr.tk, hr.n, h2⟩
    · exact ⟨hr.defers, v, h1, v, C', rfl, rfl, hle, hr.sr, hr.S, hr.tk, hr.n, h2⟩
  generalize he : evC P call ok k c ⟨args ++ List.replicate (fn.ntmps - args.length) .bot, C.S, C.tk, C.n⟩ = out at h
  match out with
  | none => simp [outA] at h
  | some (.exit _, _) => simp [outA] at h
  | some (.normal, st') => exact evC_sound hc hi hd hl c C _ .normal st' _ _ he hrel (fin (.inl rfl) h)
  | some (.ret, st') => exact evC_sound hc hi hd hl c C _ .ret st' _ _ he hrel (fin (.inr rfl) h)
def Cx.alone (C : Cx) : Cx := { w := C.w, av := C.Avoid, φ := C.φ, ψ := C.ψ, S := [], tk := [], n := 0 }
theorem alone_mut {C : Cx} {b o : Nat} : ¬ C.alone.Mut b o := by
  rintro (⟨i, hi, _⟩ | ⟨i, hi, _⟩) <;> simp [Cx.alone] at hi
theorem SR.alone [Globs] {C : Cx} (hs : SR C) : SR C.alone := by
  refine ⟨fun i e h => by simp [Cx.alone, nth] at h, fun i j hi => by simp [Cx.alone] at hi, fun i j o hi => by simp [Cx.alone] at hi, fun i j o hi => by simp [Cx.alone] at hi, fun b o h => absurd h alone_mut, fun b o h => ?_, fun i o hi => by simp [Cx.alone] at hi, fun g o h => ⟨(hs.glob g o h).1, fun i => .inl ((hs.glob g o h).2 i)⟩⟩
  rcases Nat.lt_or_ge b C.w.heap.size with h' | h'
  · exact h'
  · exact absurd h (hs.fresh h')
theorem fz_own [Globs] {C : Cx} (hs : SR C) {m id o : Nat} (hid : id < C.S.length) (hm : m ≤ id) : ¬ ({ C with S := C.S.take m } : Cx).Avoid (C.φ id) o := by
  rintro (h | ⟨i, hi, h⟩ | ⟨i, hi, h1, h2, h3⟩)
  · exact hs.own _ o (.inl ⟨id, hid, rfl⟩) h
  · simp only [List.length_take] at hi
    have := hs.ne i id (by omega) hid h
    omega
  · exact hs.apart id i o hid hi h1.symm h2 h3
theorem fz1_sound [Globs] {C : Cx} (hs : SR C) (m : Nat) {c x} (h : VR C c x) : VR { C with S := C.S.take m } (fz1 m C.S c) x := by
  have keep : VR { C with S := C.S.take m } c x := VR.mono (Le.take m) _ _ h
  cases c with
  | sref id ep off len sz =>
    simp only [fz1]
    split
    · rename_i hm
      unfold fzB
      split
      · rename_i cs hcs
        obtain ⟨e, h1, h2, rfl⟩ := entAt_some hcs
        unfold rowsFz
        split
        · rename_i es hes
          split
          · rename_i hp
            simp only [VR] at h
            obtain ⟨b, a, cap, rfl, hcap, ha, hn, hb⟩ := h
            obtain rfl := (hb e h1 h2).1
            obtain ⟨hlt, arr, t, h3, h4⟩ := hs.entC h1 (entAt_notM hcs)
            obtain ⟨pd, h4⟩ := entP h4
            obtain ⟨g1, g2, g3, g4⟩ := rowsAt_len hes
            have g4' : len * sz ≤ ((e.cells ++ pd).drop off).length := by simp at g4 ⊢; omega
            have g3' : es.flatten = ((e.cells ++ pd).drop off).take (len * sz) := by rw [g3, List.drop_append, List.take_append_of_le_length g4]
            simp only [VR]
            refine ⟨a, len, cap, rfl, by simp [g1], hcap, trivial, ?_⟩
            by_cases h0 : len = 0
            · left
              subst h0
              rw [List.eq_nil_of_length_eq_zero g1]; rfl
            · right
              obtain rfl := ha.resolve_left fun h => h0 h.1
              have hl4 := VRs_length h4
              simp only [Array.length_toList] at hl4
              refine ⟨C.φ id, off, sz, rfl, PRows_lay (l := (arr.toList.drop off).take (len * sz)) (fun e he => ?_) ?_ (lie_of fun j v hj => ⟨?_, fz_own hs (nth_lt h1) hm⟩)⟩
              · rw [List.mem_map] at he
                obtain ⟨e', he', rfl⟩ := he
                rw [List.length_map]; exact g2 e' he'
              · have hflat : (es.map (·.map w1)).flatten = (((e.cells ++ pd).drop off).take (len * sz)).map w1 := by rw [← g3', List.map_flatten]
                have hvs : VRs C (((e.cells ++ pd).drop off).take (len * sz)) ((arr.toList.drop off).take (len * sz)) := (VRs_take (VRs_drop off h4) (takeN_some g4')).1
                rw [hflat]
                refine PRs_of_VRs (C := { C with S := C.S.take m }) ?_ (VRs.mono (Le.take m) _ _ (VRs_w1 hvs))
                rw [← g3', List.all_eq_true]
                intro c hc
                rw [List.mem_map] at hc
                obtain ⟨c', hc', rfl⟩ := hc
                rw [List.mem_flatten] at hc'
                obtain ⟨r, hr, hc'⟩ := hc'
                exact List.all_eq_true.1 (List.all_eq_true.1 hp r hr) c' hc'
              · have hj' : j < len * sz := by
                  have := (List.getElem?_eq_some_iff.1 hj).1
                  simp at this; omega
                rw [List.getElem?_take_of_lt hj', List.getElem?_drop] at hj
                simp [World.cell?, h3]; simpa using hj
          · simp only [VR]
        · simp only [VR]
      · simp only [VR]
    · exact keep
  | _ => exact keep
theorem fz1s_sound [Globs] {C : Cx} (hs : SR C) (m : Nat) : ∀ {cs vs}, VRs C cs vs → VRs { C with S := C.S.take m } (cs.map (fz1 m C.S)) vs
  | [], [], _ => by simp only [List.map_nil, VRs]
  | c :: cs, v :: vs, h => by simp only [VRs, List.map_cons] at h ⊢; exact ⟨fz1_sound hs m h.1, fz1s_sound hs m h.2⟩
  | [], _ :: _, h => by simp only [VRs] at h
  | _ :: _, [], h => by simp only [VRs] at h
theorem fz2_sound [Globs] {C : Cx} (hs : SR C) (m : Nat) {c x} (h : VR C c x) : VR { C with S := C.S.take m } (fz2 m C.S c) x := by
  cases c with
  | agg cs =>
    simp only [fz2, VR] at h ⊢
    obtain ⟨vs, e, hr⟩ := h
    exact ⟨vs, e, fz1s_sound hs m hr⟩
  | _ => exact fz1_sound hs m h
theorem fz2s_sound [Globs] {C : Cx} (hs : SR C) (m : Nat) : ∀ {cs vs}, VRs C cs vs → VRs { C with S := C.S.take m } (cs.map (fz2 m C.S)) vs
  | [], [], _ => by simp only [List.map_nil, VRs]
  | c :: cs, v :: vs, h => by simp only [VRs, List.map_cons] at h ⊢; exact ⟨fz2_sound hs m h.1, fz2s_sound hs m h.2⟩
  | [], _ :: _, h => by simp only [VRs] at h
  | _ :: _, [], h => by simp only [VRs] at h
theorem fz3_sound [Globs] {C : Cx} (hs : SR C) (m : Nat) {c x} (h : VR C c x) : VR { C with S := C.S.take m } (fz3 m C.S c) x := by
  cases c with
  | tup cs =>
    simp only [fz3, VR] at h ⊢
    obtain ⟨vs, e, hr⟩ := h
    exact ⟨vs, e, fz2s_sound hs m hr⟩
  | _ => exact fz2_sound hs m h
theorem evF_ext [Globs] [Ext P] {ok : St → List Oper → Bool} {k : Nat} {f : FuncId} {args : List AV} {S : List Ent} {tk : List Nat} {n : Nat} (hf : Ext.on P f = true) : evF P ok (k + 1) f args S tk n = extC P f args S tk n := by
  simp only [evF, extC, hf, if_true]
structure KeepI (A : Nat → Bool) (m : Nat) (S0 : List Ent) (tk0 : List Nat) (st : St) : Prop where
  S : st.S.take m = S0
  le : m ≤ st.S.length
  tk : st.tk = tk0
  own : ∀ q, A q = true → getT st.T q = .bot ∨ getT st.T q = .prim undef ∨ ∃ id ep off, getT st.T q = .ref id ep off ∧ m ≤ id
theorem gp_same : ∀ {T : List AV} {d : Nat} {v : AV}, d < T.length → getT (put T d v) d = v
  | _ :: _, 0, _, _ => rfl
  | _ :: T, d + 1, _, h => gp_same (T := T) (by simpa using h)
  | [], _, _, h => by simp at h
theorem gp_other : ∀ {T : List AV} {d q : Nat} {v : AV}, d ≠ q → getT (put T d v) q = getT T q
  | [], _, _, _, _ => rfl
  | _ :: _, 0, 0, _, h => absurd rfl h
  | _ :: _, 0, _ + 1, _, _ => rfl
  | _ :: _, _ + 1, 0, _, _ => rfl
  | _ :: T, d + 1, q + 1, _, h => gp_other (T := T) (by omega)
theorem put_out : ∀ {T : List AV} {d : Nat} {v : AV}, T.length ≤ d → put T d v = T
  | [], _, _, _ => rfl
  | _ :: _, 0, _, h => by simp at h
  | _ :: T, d + 1, _, h => by simp only [put]; rw [put_out (T := T) (by simpa using h)]
theorem getT_putT {T : List AV} {d : Option Nat} {v : AV} {q : Nat} : getT (putT T d v) q = getT T q ∨ (d = some q ∧ getT (putT T d v) q = v) := by
  cases d with
  | none => exact .inl rfl
  | some d =>
    simp only [putT]
    by_cases h : d = q
    · subst h
      rcases Nat.lt_or_ge d T.length with hl | hl
      · exact .inr ⟨rfl, gp_same hl⟩
      · left; rw [put_out hl]
    · exact .inl (gp_other h)
theorem take_put {α : Type} : ∀ {l : List α} {i m : Nat} {v : α}, m ≤ i → (put l i v).take m = l.take m
  | [], _, _, _, _ => rfl
  | _ :: _, 0, m, _, h => by
    have : m = 0 := by omega
    subst this; rfl
  | _ :: _, _ + 1, 0, _, _ => rfl
  | _ :: l, i + 1, m + 1, v, h => by simp only [put, List.take_succ_cons, take_put (l := l) (i := i) (m := m) (v := v) (by omega)]
theorem bsO_S {P : Program} {t : TypeId} {len : Nat} {ps : List (Nat × AV)} {S S' : List Ent} {n n' : Nat} {v : AV} (h : bsO P t len ps S n = some (v, S', n')) : ∃ e, S' = S ++ [e] := by
  unfold bsO at h
  split at h
  · simp only [Option.map_eq_some_iff, Prod.mk.injEq] at h
    obtain ⟨_, _, _, rfl, _⟩ := h
    exact ⟨_, rfl⟩
  · cases h
theorem keep_op [Globs] {call : CallA} {o : Oper} {all : List Oper} {nn m : Nat} {S0 : List Ent} {tk0 : List Nat} {st st' : St} {v : AV} (hA : o ∈ all) (hk : keepOp all nn o = true) (hI : KeepI (fun q => decide (nn ≤ q) && ownSlot all q) m S0 tk0 st) (h : evO P call o st = some (v, st')) :
    KeepI (fun q => decide (nn ≤ q) && ownSlot all q) m S0 tk0 { st' with T := putT st'.T o.dst v } := by
  have slot : st'.T = st.T → (makesVar o = true → ∃ id ep off, v = .ref id ep off ∧ m ≤ id) → ∀ q, (decide (nn ≤ q) && ownSlot all q) = true → getT (putT st'.T o.dst v) q = .bot ∨ getT (putT st'.T o.dst v) q = .prim undef ∨ ∃ id ep off, getT (putT st'.T o.dst v) q = .ref id ep off ∧ m ≤ id := by
    intro hT hv q hq
    rcases getT_putT (T := st'.T) (d := o.dst) (v := v) (q := q) with e | ⟨e1, e2⟩
    · rw [e, hT]; exact hI.own q hq
    · simp only [Bool.and_eq_true] at hq
      have := List.all_eq_true.1 hq.2 o hA
      rw [e1] at this
      simp only [bne_self_eq_false, Bool.false_or] at this
      obtain ⟨id, ep, off, rfl, hm⟩ := hv this
      exact .inr (.inr ⟨id, ep, off, e2, hm⟩)
  unfold evO at h
  unfold keepOp at hk
  split at h
  · rename_i t x e
    simp only [Option.map_eq_some_iff, Prod.mk.injEq] at h
    obtain ⟨_, _, rfl, rfl⟩ := h
    exact ⟨hI.S, hI.le, hI.tk, slot rfl (fun hm => by simp [makesVar, e] at hm)⟩
  · rename_i t x y e
    rw [e] at hk
    simp only [Option.map_eq_some_iff, Prod.mk.injEq] at h
    obtain ⟨S', hs, rfl, rfl⟩ := h
    cases x with
    | tmp q =>
      simp only at hk
      unfold stA at hs
      split at hs
      · rename_i id ep off sz vs hx _ _
        simp only [opv] at hx
        split at hs
        · split at hs
          · split at hs
            · simp only [Option.some.injEq] at hs; subst hs
              have hid : m ≤ id := by
                rcases hI.own q hk with h1 | h1 | ⟨id', ep', off', h1, h2⟩
                · rw [h1] at hx; simp at hx
                · rw [h1] at hx; simp at hx
                · rw [h1] at hx; simp only [AV.ref.injEq] at hx; omega
              exact ⟨by show (put st.S id _).take m = S0; rw [take_put hid]; exact hI.S, by show m ≤ (put st.S id _).length; rw [put_len]; exact hI.le, hI.tk, slot rfl (fun hm => by simp [makesVar, e] at hm)⟩
            · simp at hs
          · simp at hs
        · simp at hs
      · simp at hs
    | _ => simp at hk
  · rename_i t e
    simp only [Option.map_eq_some_iff, Prod.mk.injEq] at h
    obtain ⟨cs, _, rfl, rfl⟩ := h
    exact ⟨by show (st.S ++ _).take m = S0; rw [List.take_append_of_le_length hI.le]; exact hI.S, by show m ≤ (st.S ++ _).length; rw [List.length_append]; exact Nat.le_trans hI.le (Nat.le_add_right _ _), hI.tk, slot rfl (fun _ => ⟨_, _, _, rfl, hI.le⟩)⟩
  · rename_i t x e
    simp only [Option.map_eq_some_iff, Prod.mk.injEq] at h
    obtain ⟨cs, _, rfl, rfl⟩ := h
    exact ⟨by show (st.S ++ _).take m = S0; rw [List.take_append_of_le_length hI.le]; exact hI.S, by show m ≤ (st.S ++ _).length; rw [List.length_append]; exact Nat.le_trans hI.le (Nat.le_add_right _ _), hI.tk, slot rfl (fun _ => ⟨_, _, _, rfl, hI.le⟩)⟩
  · rename_i t l c e
    rw [e] at hk
    simp only [Bool.not_eq_true'] at hk
    simp only [Option.map_eq_some_iff, Prod.exists, hk] at h
    obtain ⟨l', sz, cs, _, hh⟩ := h
    rw [if_neg (by simp)] at hh
    simp only [Prod.mk.injEq] at hh
    obtain ⟨rfl, rfl⟩ := hh
    exact ⟨by show (st.S ++ _).take m = S0; rw [List.take_append_of_le_length hI.le]; exact hI.S, by show m ≤ (st.S ++ _).length; rw [List.length_append]; exact Nat.le_trans hI.le (Nat.le_add_right _ _), hI.tk, slot rfl (fun hm => by simp [makesVar, e] at hm)⟩
  · rename_i t len ps e
    split at h
    · simp only [Option.map_eq_some_iff, Prod.mk.injEq, Prod.exists] at h
      obtain ⟨v, S', n', h, rfl, rfl⟩ := h
      obtain ⟨e', rfl⟩ := bsO_S h
      exact ⟨by show (st.S ++ _).take m = S0; rw [List.take_append_of_le_length hI.le]; exact hI.S, by show m ≤ (st.S ++ _).length; rw [List.length_append]; exact Nat.le_trans hI.le (Nat.le_add_right _ _), hI.tk, slot rfl (fun hm => by simp [makesVar, e] at hm)⟩
    · simp only [Option.map_eq_some_iff, Prod.mk.injEq] at h
      obtain ⟨_, _, rfl, rfl⟩ := h
      exact ⟨hI.S, hI.le, hI.tk, slot rfl (fun hm => by simp [makesVar, e] at hm)⟩
  · rename_i t e
    simp only [Option.map_eq_some_iff, Prod.mk.injEq] at h
    obtain ⟨_, _, rfl, rfl⟩ := h
    exact ⟨by show (st.S ++ _).take m = S0; rw [List.take_append_of_le_length hI.le]; exact hI.S, by show m ≤ (st.S ++ _).length; rw [List.length_append]; exact Nat.le_trans hI.le (Nat.le_add_right _ _), hI.tk, slot rfl (fun hm => by simp [makesVar, e] at hm)⟩
  · rename_i t x y e
    simp only [Option.map_eq_some_iff, Prod.mk.injEq] at h
    obtain ⟨_, _, rfl, rfl⟩ := h
    exact ⟨hI.S, hI.le, hI.tk, slot rfl (fun hm => by simp [makesVar, e] at hm)⟩
  · rename_i t x y z e
    rw [e] at hk
    simp at hk
  · rename_i c e
    rw [e] at hk
    simp only at hk
    split at h
    · rename_i hb; rw [hb] at hk; simp at hk
    · rename_i hb; rw [hb] at hk; simp at hk
    · rename_i hb; rw [hb] at hk; simp at hk
    · simp only [Option.map_eq_some_iff, Prod.mk.injEq] at h; obtain ⟨_, _, rfl, rfl⟩ := h
      exact ⟨hI.S, hI.le, hI.tk, slot rfl (fun hm => by simp [makesVar, e] at hm)⟩
    · rename_i h1 h2 h3 h4
      exfalso
      cases hc : c.callee with
      | builtin b => cases b <;> first | exact h1 hc | exact h2 hc | exact h3 hc | exact h4 _ hc
      | value x => rw [hc] at hk; simp at hk
      | invoke x m => rw [hc] at hk; simp at hk
  · rename_i h1 h2 h3 h4 h5 h6 h7 h8 h9 h10
    simp only [Option.map_eq_some_iff, Prod.mk.injEq] at h; obtain ⟨_, _, rfl, rfl⟩ := h
    refine ⟨hI.S, hI.le, hI.tk, slot rfl (fun hm => ?_)⟩
    unfold makesVar at hm
    split at hm
    · exact absurd (by assumption) (h3 _)
    · exact absurd (by assumption) (h4 _ _)
    · simp at hm
theorem keep_ops [G : Globs] {call : CallA} {allr all : List Oper} {nn m : Nat} {S0 : List Ent} {tk0 : List Nat} : ∀ {l : List Oper} {st st' : St}, (∀ o ∈ l, o ∈ all ∧ keepOp all nn o = true) → KeepI (fun q => decide (nn ≤ q) && ownSlot all q) m S0 tk0 st → evOs P call allr l st = some st' → KeepI (fun q => decide (nn ≤ q) && ownSlot all q) m S0 tk0 st'
  | [], st, st', _, hI, h => by simp only [evOs, Option.some.injEq] at h; subst h; exact hI
  | o :: l, st, st', hq, hI, h => by
    simp only [evOs] at h
    split at h
    · simp at h
    · refine keep_ops (fun o ho => hq o (by simp [ho])) ?_ h
      refine ⟨hI.S, hI.le, hI.tk, fun q hqq => ?_⟩
      rcases getT_putT (T := st.T) (d := o.dst) (v := .prim undef) (q := q) with e | ⟨_, e⟩
      · simp only [e]; exact hI.own q hqq
      · exact .inr (.inl e)
    · split at h
      · rename_i v s1 ho
        split at h
        case isFalse => simp at h
        obtain ⟨a1, a2⟩ := hq o (by simp)
        exact keep_ops (fun o ho => hq o (by simp [ho])) (keep_op a1 a2 hI ho) h
      · simp at h
theorem keep_loop {kp : Bool} {A : Nat → Bool} {m : Nat} {S0 : List Ent} {tk0 : List Nat} {f : St → Option (Ex × St)} (hf : ∀ st ex st', KeepI A m S0 tk0 st → f st = some (ex, st') → KeepI A m S0 tk0 st') : ∀ {k : Nat} {st st' : St} {ex : Ex}, KeepI A m S0 tk0 st → loopA kp f k st = some (ex, st') → KeepI A m S0 tk0 st'
  | 0, _, _, _, _, h => by simp [loopA] at h
  | k + 1, st, st', ex, hI, h => by
    simp only [loopA] at h
    split at h
    · rename_i s1 h1
      have h2 := hf _ _ _ hI h1
      have hmm : m ≤ bif kp then s1.S.length else st.S.length := by cases kp <;> first | exact hI.le | exact h2.le
      rw [cut_take] at h
      generalize (bif kp then s1.S.length else st.S.length) = mm at h hmm
      refine keep_loop (st := { s1 with S := s1.S.take mm }) hf ⟨?_, ?_, h2.tk, h2.own⟩ h
      · show (s1.S.take mm).take m = S0
        rw [List.take_take, Nat.min_eq_left hmm]; exact h2.S
      · show m ≤ (s1.S.take mm).length
        rw [List.length_take]
        exact Nat.le_min.2 ⟨hmm, h2.le⟩
    · exact hf _ _ _ hI h
theorem late_keep [Globs] {L : List Oper} {p : Nat} {al o : Oper} {all : List Oper} {nn : Nat} (h : lateT L = some (p, al, o)) : ¬ ∀ o ∈ L, o ∈ all ∧ keepOp all nn o = true := by
  intro hq
  unfold lateT at h
  split at h
  · split at h
    · rename_i hc
      simp only [Bool.and_eq_true, List.any_eq_true] at hc
      obtain ⟨x, hx, hx2⟩ := hc.2
      have hk := (hq x (List.dropLast_subset _ hx)).2
      unfold xOp at hx2
      unfold keepOp at hk
      split at hx2
      · rename_i c hc'
        rw [hc'] at hk
        simp only at hk
        unfold xCall at hx2
        split at hx2 <;> rename_i hcal <;> simp_all
      · simp at hx2
    · simp at h
  · simp at h
theorem rng_keep {c : Code} {all : List Oper} {nn : Nat} (h : rngT c = true) : ¬ ∀ o ∈ opsOf c, o ∈ all ∧ keepOp all nn o = true := by
  intro hq
  unfold rngT at h
  split at h
  · rename_i id ops bid lc
    rw [List.any_eq_true] at h
    obtain ⟨o, ho, hop⟩ := h
    have := (hq o (by simp only [opsOf, List.mem_append]; exact .inl ho)).2
    split at hop
    · rename_i t x hx
      unfold keepOp at this
      rw [hx] at this
      cases this
    · cases hop
  · cases h
theorem keep_code [Globs] [Ext P] {call : CallA} {ok : St → List Oper → Bool} {n nn m : Nat} {all : List Oper} {S0 : List Ent} {tk0 : List Nat} : ∀ (c : Code) (st : St) (ex : Ex) (st' : St), (∀ o ∈ opsOf c, o ∈ all ∧ keepOp all nn o = true) → KeepI (fun q => decide (nn ≤ q) && ownSlot all q) m S0 tk0 st → evC P call ok n c st = some (ex, st') → KeepI (fun q => decide (nn ≤ q) && ownSlot all q) m S0 tk0 st'
  | .skip, st, ex, st', _, hI, h => by simp only [evC, Option.some.injEq, Prod.mk.injEq] at h; obtain ⟨_, rfl⟩ := h; exact hI
  | .exit _, st, ex, st', _, hI, h => by simp only [evC, Option.some.injEq, Prod.mk.injEq] at h; obtain ⟨_, rfl⟩ := h; exact hI
  | .ret, st, ex, st', _, hI, h => by simp only [evC, Option.some.injEq, Prod.mk.injEq] at h; obtain ⟨_, rfl⟩ := h; exact hI
  | .region _ ops draw, st, ex, st', hq, hI, h => by
    simp only [opsOf] at hq
    simp only [evC] at h
    split at h
    · split at h
      · rename_i ini o hsp
        obtain ⟨hL, -⟩ := splitT_some hsp
        rw [hL] at hq
        split at h
        · split at h
          · rename_i s1 h1
            simp only [Option.map_eq_some_iff, Prod.mk.injEq] at h
            obtain ⟨s2, h2, _, rfl⟩ := h
            exact keep_ops (fun x hx => hq x (List.mem_append.2 (.inr hx))) (keep_ops (G := gM _) (fun x hx => hq x (List.mem_append.2 (.inl hx))) hI h1) h2
          · simp at h
        · simp at h
      · split at h
        · rename_i hlt
          exact absurd hq (late_keep hlt)
        · split at h
          · simp only [Option.map_eq_some_iff, Prod.mk.injEq] at h
            obtain ⟨s1, h, _, rfl⟩ := h
            exact keep_ops (G := gM _) hq hI h
          · simp at h
    · simp only [Option.map_eq_some_iff, Prod.mk.injEq] at h
      obtain ⟨s1, h, _, rfl⟩ := h
      exact keep_ops hq hI h
  | .seq a b, st, ex, st', hq, hI, h => by
    cases hrg : rngT (.seq a b) with
    | true => exact absurd hq (rng_keep hrg)
    | false =>
    simp only [opsOf, List.mem_append] at hq
    simp only [evC, hrg, cond_false] at h
    split at h
    · rename_i s1 h1
      exact keep_code b _ _ _ (fun o ho => hq o (.inr ho)) (keep_code a _ _ _ (fun o ho => hq o (.inl ho)) hI h1) h
    · exact keep_code a _ _ _ (fun o ho => hq o (.inl ho)) hI h
  | .cond x a b, st, ex, st', hq, hI, h => by
    simp only [opsOf, List.mem_append] at hq
    simp only [evC] at h
    split at h
    · split at h
      · exact keep_code a _ _ _ (fun o ho => hq o (.inl ho)) hI h
      · exact keep_code b _ _ _ (fun o ho => hq o (.inr ho)) hI h
    · simp at h
  | .block id c, st, ex, st', hq, hI, h => by
    simp only [opsOf] at hq
    simp only [evC] at h
    split at h
    · rename_i id' s1 h1
      have := keep_code c _ _ _ hq hI h1
      split at h
      · simp only [Option.some.injEq, Prod.mk.injEq] at h; obtain ⟨_, rfl⟩ := h; exact this
      · simp only [Option.some.injEq, Prod.mk.injEq] at h; obtain ⟨_, rfl⟩ := h; exact this
    · exact keep_code c _ _ _ hq hI h
  | .loop c, st, ex, st', hq, hI, h => by
    simp only [opsOf] at hq
    simp only [evC] at h
    exact keep_loop (fun s e s' hs hh => keep_code c s e s' hq hs hh) hI h
  | .rangeFunc _ _ _ _, _, _, _, _, _, h => by simp [evC] at h
  | .scope c, st, ex, st', hq, hI, h => by
    simp only [opsOf] at hq
    simp only [evC] at h
    exact keep_code c _ _ _ hq hI h
  | .label _, st, ex, st', _, hI, h => by simp only [evC, Option.some.injEq, Prod.mk.injEq] at h; obtain ⟨_, rfl⟩ := h; exact hI
  | .goto _, _, _, _, _, _, h => by simp [evC] at h
  | .refuse _, _, _, _, _, _, h => by simp [evC] at h
theorem getT_bots {args : List AV} {q n : Nat} (h : args.length ≤ q) : getT (args ++ List.replicate n .bot) q = .bot := by
  induction args generalizing q with
  | nil =>
    simp only [List.nil_append]
    induction n generalizing q with
    | zero => rfl
    | succ n ih => cases q with
      | zero => rfl
      | succ q => exact ih (by simp)
  | cons x args ih => cases q with
    | zero => simp at h
    | succ q => exact ih (by simpa using h)
theorem evF_indep [Globs] [Ext P] [hX : ExtOk P] {ok : St → List Oper → Bool} : ∀ k M, @IndepX (gM M) (@callP (gM M) P _ (evF P ok k))
  | 0, M => by intro f args S tk n r S' tk' n' h; simp [callP, evF] at h
  | k + 1, M => by
    intro f args S tk n r S' tk' n' h
    by_cases hon : Ext.on P f = true
    · have e : ∀ S tk n, @callP (gM M) P _ (evF P ok (k + 1)) f args S tk n = @callP (gM M) P _ (extC P) f args S tk n := by
        intro S tk n; simp only [callP, evF_ext hon]
      rw [e] at h
      rcases hX.indep M _ _ _ _ _ _ _ _ _ h with hx | ⟨t1, t2, t3, t4⟩ | ⟨g1, g2, g4⟩
      · exact .inl hx
      · exact .inr (.inl ⟨t1, t2, t3, fun S2 n2 => by rw [e]; exact t4 S2 n2⟩)
      exact .inr <| .inr ⟨g1, g2, g4.imp _root_.id fun g4 => ⟨g4.1, fun S2 tk2 n2 => by rw [e]; exact g4.2 S2 tk2 n2⟩⟩
    by_cases hxf : (@xF (gM M) f && @Globs.dr (gM M)) = true
    · exact .inl hxf
    right
    right
    unfold callP at h
    split at h
    · rename_i hp
      by_cases hpu : ((args.map w2).all pure2 && !Ext.mv P f) = true
      · have hp' := hpu
        simp only [Bool.and_eq_true, Bool.not_eq_true'] at hp'
        obtain ⟨hp1, hmv⟩ := hp'
        simp only [evF] at h
        rw [if_neg hon] at h
        split at h
        · rename_i fn hf
          split at h
          · rename_i c hb
            split at h
            · simp at h
            · rename_i hname
              simp only [hmv, hp1, if_true, Bool.false_eq_true, if_false] at h
              split at h
              · rename_i r' ho
                simp only [Option.some.injEq, Prod.mk.injEq] at h
                obtain ⟨rfl, rfl, rfl, rfl⟩ := h
                refine ⟨rfl, rfl, .inr ⟨rfl, fun S2 tk2 n2 => ?_⟩⟩
                unfold callP
                rw [if_pos hp]
                simp only [evF, hf, hb]
                rw [if_neg hon, if_neg hname, if_neg (by rw [hmv]; simp), if_pos hp1, ho]
              · simp at h
          · simp at h
        · simp at h
      · have hsh : (@shF (gM M) f && keepFn P f args.length && !Ext.mv P f && !Ext.on P f) = true := by
          cases hx : ((args.map w2).all pure2 && !Ext.mv P f) with
          | true => exact absurd hx hpu
          | false => rw [hx] at hp; simpa [hxf] using hp
        simp only [Bool.and_eq_true, Bool.not_eq_true'] at hsh
        obtain ⟨⟨⟨h1, h2⟩, hmv⟩, -⟩ := hsh
        have hpp : ¬ (args.map w2).all pure2 = true := fun h => hpu (by simp [h, hmv])
        simp only [evF] at h
        rw [if_neg hon] at h
        unfold keepFn at h2
        split at h
        · rename_i fn hf
          rw [hf] at h2
          simp only at h2
          split at h
          · rename_i c hb
            rw [hb] at h2
            simp only at h2
            split at h
            · simp at h
            · simp only [hmv, hpp, Bool.false_eq_true, if_false] at h
              split at h
              · rename_i r' st ho
                simp only [Option.some.injEq, Prod.mk.injEq] at h
                obtain ⟨rfl, rfl, rfl, rfl⟩ := h
                have hout : ∃ ex, evC P (evF P ok k) ok k c ⟨args ++ List.replicate (fn.ntmps - args.length) .bot, S, tk, n⟩ = some (ex, st) := by
                  generalize evC P (evF P ok k) ok k c ⟨args ++ List.replicate (fn.ntmps - args.length) .bot, S, tk, n⟩ = o at ho
                  unfold outA at ho
                  split at ho
                  · simp only [Option.map_eq_some_iff, Prod.mk.injEq] at ho; obtain ⟨_, _, _, rfl⟩ := ho; exact ⟨_, rfl⟩
                  · simp only [Option.map_eq_some_iff, Prod.mk.injEq] at ho; obtain ⟨_, _, _, rfl⟩ := ho; exact ⟨_, rfl⟩
                  · simp at ho
                obtain ⟨ex, hex⟩ := hout
                have hK := keep_code (all := opsOf c) (nn := args.length) (m := S.length) (S0 := S) (tk0 := tk) c _ _ _ (fun o ho => ⟨ho, List.all_eq_true.1 h2 o ho⟩)
                  ⟨List.take_length, Nat.le_refl _, rfl, fun q hq => .inl (getT_bots (by simp only [Bool.and_eq_true, decide_eq_true_eq] at hq; exact hq.1))⟩ hex
                exact ⟨hK.S, hK.tk, .inl h1⟩
              · simp at h
          · simp at h
        · simp at h
    · simp at h
theorem evF_sound [Globs] [Ext P] [hX : ExtOk P] {ok : St → List Oper → Bool} (hd : DrawOk P ok) : ∀ k, CallOk P (evF P ok k)
  | 0 => by intro f args S tk n r S' tk' n' h; simp [evF] at h
  | k + 1 => by
    have hc := evF_sound hd k
    intro f args S tk n r S' tk' n' h
    by_cases hon : Ext.on P f = true
    · rw [evF_ext hon] at h
      exact hX.ok _ _ _ _ _ _ _ _ _ h
    simp only [evF] at h
    rw [if_neg hon] at h
    split at h
    · rename_i fn hf
      split at h
      · rename_i c hb
        split at h
        · simp at h
        · rename_i hname
          refine ⟨⟨fn, hf, by simpa using hname, by rw [hb]; rfl⟩, ?_⟩
          rintro C vs rfl rfl rfl hs hv
          split at h
          · split at h
            · rename_i r' st ho
              simp only [Option.some.injEq, Prod.mk.injEq] at h
              obtain ⟨rfl, rfl, rfl, rfl⟩ := h
              exact body_sound hc (evF_indep k) hd hX.lps (k := k) hf hb hs hv ho
            · simp at h
          split at h
          · rename_i hp
            split at h
            · rename_i r' ho
              simp only [Option.some.injEq, Prod.mk.injEq] at h
              obtain ⟨rfl, rfl, rfl, rfl⟩ := h
              have hst : Stays C.w C.alone.w C.Avoid C.alone.Avoid := fun b o v h1 h2 => ⟨h1, fun h3 => h3.elim h2 alone_mut⟩
              have hv' := pures2_move hst hp (VRs_w2 hv)
              have one : ∀ {as : List AV} {r0 : AV}, VRs C.alone as vs.toList → runP P ok (evF P ok k) k fn c as = some r0 → Calls P f vs C.w fun e w' => ∃ v C', e = .returned v ∧ C'.w = w' ∧ Le C C' ∧ SR C' ∧ C'.S = C.S ∧ C'.tk = C.tk ∧ C'.n = C.n ∧ VR C' r0 v := by
                intro as r0 hv' hrun
                unfold runP at hrun
                split at hrun
                · rename_i r' st ho
                  split at hrun
                  · rename_i hp3
                    simp only [Option.some.injEq] at hrun
                    subst hrun
                    refine Calls.mono (body_sound hc (evF_indep k) hd hX.lps (k := k) hf hb hs.alone hv' ho) ?_
                    rintro e w' ⟨v, C', rfl, rfl, hle, hs', hS', -, -, h2⟩
                    have hbel : Below C.w.heap.size C.w C'.w := ⟨hle.os, hle.tape, hle.output, hle.size, fun b hb => hle.keep b hb fun o => alone_mut⟩
                    refine ⟨v, C.at C'.w, rfl, rfl, Le.of_below hbel, SR.of_below hs hbel, rfl, rfl, rfl, ?_⟩
                    have h3 := fz3_sound hs' 0 h2
                    rw [hS'] at h3
                    refine pure3_move (C := { C' with S := st.S.take 0 }) (fun b o x h1 h2 => ⟨h1, fun h3 => h2 (.inl ?_)⟩) hp3 (VR_w3 h3)
                    show C'.av b o
                    rw [hle.av]; exact h3
                  · simp at hrun
                · simp at hrun
              split at ho
              · unfold runN at ho
                split at ho
                · rename_i l hl
                  split at ho
                  · rename_i q1 q2
                    simp only [Option.some.injEq] at ho
                    subst ho
                    rw [hl] at hv'
                    cases hvl : vs.toList with
                    | nil => rw [hvl] at hv'; simp only [VRs] at hv'
                    | cons x xs =>
                      rw [hvl] at hv'
                      simp only [VRs] at hv'
                      obtain ⟨hx, hxs⟩ := hv'
                      simp only [VR] at hx
                      obtain ⟨a, len, cap, rfl, h1, h2, -, h4⟩ := hx
                      cases a with
                      | none => exact one (as := .frz [] .nl :: l) (by rw [hvl]; simp only [VRs, VR]; exact ⟨⟨none, len, cap, rfl, h1, h2, rfl, .inl trivial⟩, hxs⟩) q1
                      | some a => exact one (as := .frz [] .nn :: l) (by rw [hvl]; simp only [VRs, VR]; exact ⟨⟨some a, len, cap, rfl, h1, h2, rfl, .inl trivial⟩, hxs⟩) q2
                  · simp at ho
                · exact one hv' ho
              · exact one hv' ho
            · simp at h
          · split at h
            · rename_i r' st ho
              simp only [Option.some.injEq, Prod.mk.injEq] at h
              obtain ⟨rfl, rfl, rfl, rfl⟩ := h
              refine Calls.mono (body_sound hc (evF_indep k) hd hX.lps (k := k) hf hb hs hv ho) ?_
              rintro e w' ⟨v, C', rfl, rfl, hle, hs', e1, e2, e3, h2⟩
              have h3 := fz3_sound hs' C.S.length h2
              rw [e1] at h3
              exact ⟨v, { C' with S := C'.S.take C.S.length }, rfl, rfl, hle.trans (Le.take _), hs'.take _, by rw [← e1], e2, e3, by rw [e1]; exact h3⟩
            · simp at h
      · simp at h
    · simp at h
end
end Go.Proofs.YtmkoiandfojgmaaGreat
