/-
  The evaluator's values and the model's: what it means that one stands for the other, and that this lasts.
-/
import Derived.Test.YtokncdoejnchfaaDoorEv
namespace Go.Proofs.YtokncdoejnchfaaDoor

/-- where the evaluator's things lie: cells to be left alone, the block of each variable, and of each token the block, and the cells that only its holder may write -/
structure Cx where
  w : World
  av : Nat → Nat → Prop
  φ : Nat → Nat
  ψ : Nat → Nat × Nat × Nat
  S : List Ent
  tk : List Nat
  n : Nat

def Cx.Mut (C : Cx) (b o : Nat) : Prop := (∃ id, id < C.S.length ∧ C.φ id = b) ∨ (∃ id, id < C.tk.length ∧ (C.ψ id).1 = b ∧ (C.ψ id).2.1 ≤ o ∧ o < (C.ψ id).2.2)
def Cx.Avoid (C : Cx) (b o : Nat) : Prop := C.av b o ∨ C.Mut b o

section
variable (w : World) (A : Nat → Nat → Prop)
/-- these values lie in these cells, which nobody writes -/
def Lie (b : Nat) : Nat → List Value → Prop
  | _, [] => True
  | o, v :: vs => w.cell? ⟨b, o, none⟩ = some v ∧ ¬ A b o ∧ Lie b (o + 1) vs
mutual
/-- a value that hangs on no variable -/
def PR : AV → Value → Prop
  | .prim v, x => x = v ∧ v.oneCell' = true
  | .frz es .unk, x => ∃ a len cap, x = .slice a len cap ∧ es.length = len ∧ len ≤ cap ∧ (es = [] ∨ ∃ b o sz, a = some ⟨b, o, none⟩ ∧ PRows b sz o es)
  | .fptr cs, x => ∃ b o vs, x = .pointer (some ⟨b, o, none⟩) ∧ Lie w A b o vs ∧ PRs cs vs
  | .fn f [], x => x = .func (.func f) #[] #[]
  | _, _ => False
def PRs : List AV → List Value → Prop
  | [], [] => True
  | c :: cs, v :: vs => PR c v ∧ PRs cs vs
  | _, _ => False
def PRows (b sz : Nat) : Nat → List (List AV) → Prop
  | _, [] => True
  | o, e :: es => e.length = sz ∧ (∃ vs, Lie w A b o vs ∧ PRs e vs) ∧ PRows b sz (o + sz) es
end
end

theorem PRs_length {w A} : ∀ {cs vs}, PRs w A cs vs → cs.length = vs.length
  | [], [], _ => rfl
  | _ :: cs, _ :: vs, h => by simp only [PRs] at h; simp [PRs_length h.2]
  | [], _ :: _, h => by simp only [PRs] at h
  | _ :: _, [], h => by simp only [PRs] at h

/-- what lies there stays -/
def Stays (w w' : World) (A A' : Nat → Nat → Prop) : Prop := ∀ b o v, w.cell? ⟨b, o, none⟩ = some v → ¬ A b o → w'.cell? ⟨b, o, none⟩ = some v ∧ ¬ A' b o
theorem Lie.stays {w w' A A'} (h : Stays w w' A A') {b} : ∀ {vs o}, Lie w A b o vs → Lie w' A' b o vs
  | [], _, _ => trivial
  | _ :: _, _, ⟨h1, h2, h3⟩ => ⟨(h _ _ _ h1 h2).1, (h _ _ _ h1 h2).2, Lie.stays h h3⟩
section
variable {w w' : World} {A A' : Nat → Nat → Prop}
mutual
theorem PR.stays (h : Stays w w' A A') : ∀ (c : AV) (x : Value), PR w A c x → PR w' A' c x
  | .prim v, x, hx => by simpa only [PR] using hx
  | .frz es .unk, x, hx => by
    simp only [PR] at hx ⊢
    obtain ⟨a, len, cap, e, h1, h2, h3⟩ := hx
    refine ⟨a, len, cap, e, h1, h2, h3.imp id ?_⟩
    rintro ⟨b, o, sz, ea, hr⟩
    exact ⟨b, o, sz, ea, PRows.stays h b sz o es hr⟩
  | .frz _ .tight, x, hx => by simp only [PR] at hx
  | .frz _ .nilc, x, hx => by simp only [PR] at hx
  | .frz _ .nl, x, hx => by simp only [PR] at hx
  | .frz _ .nn, x, hx => by simp only [PR] at hx
  | .frz _ (.tok _ _ _), x, hx => by simp only [PR] at hx
  | .fptr cs, x, hx => by
    simp only [PR] at hx ⊢
    obtain ⟨b, o, vs, e, hl, hr⟩ := hx
    exact ⟨b, o, vs, e, hl.stays h, PRs.stays h cs vs hr⟩
  | .fn f [], x, hx => by simpa only [PR] using hx
  | .fn f (_ :: _), x, hx => by simp only [PR] at hx
  | .bot, x, hx => by simp only [PR] at hx
  | .agg _, x, hx => by simp only [PR] at hx
  | .tup _, x, hx => by simp only [PR] at hx
  | .ref _ _ _, x, hx => by simp only [PR] at hx
  | .sref _ _ _ _ _, x, hx => by simp only [PR] at hx
theorem PRs.stays (h : Stays w w' A A') : ∀ (cs : List AV) (vs : List Value), PRs w A cs vs → PRs w' A' cs vs
  | [], [], _ => by simp only [PRs]
  | c :: cs, v :: vs, hx => by simp only [PRs] at hx ⊢; exact ⟨PR.stays h c v hx.1, PRs.stays h cs vs hx.2⟩
  | [], _ :: _, hx => by simp only [PRs] at hx
  | _ :: _, [], hx => by simp only [PRs] at hx
theorem PRows.stays (h : Stays w w' A A') (b sz : Nat) : ∀ (o : Nat) (es : List (List AV)), PRows w A b sz o es → PRows w' A' b sz o es
  | _, [], _ => by simp only [PRows]
  | o, e :: es, hx => by
    simp only [PRows] at hx ⊢
    obtain ⟨h1, ⟨vs, hl, hr⟩, h3⟩ := hx
    exact ⟨h1, ⟨vs, hl.stays h, PRs.stays h e vs hr⟩, PRows.stays h b sz (o + sz) es h3⟩
end
end

/-- the token's holder: the slice ends where its own cells begin -/
def CapR (C : Cx) (c : Cap) (a : Option Addr) (len cap : Nat) : Prop :=
  match c with
  | .unk => True
  | .tight => cap = len
  | .nilc => a = none ∧ cap = len
  | .nl => a = none
  | .nn => a.isSome = true
  | .tok id ep sz => ∃ k, nth C.tk id = some k ∧ ep ≤ k ∧ (ep = k → cap = len ∨ ∃ b cs t, a = some ⟨b, 0, none⟩ ∧ C.ψ id = (b, len * sz, cap * sz) ∧ C.w.heap[b]? = some (.cells cs t (0, 0)) ∧ cap * sz ≤ cs.size)

mutual
/-- the value x stands for the evaluator's value -/
def VR (C : Cx) : AV → Value → Prop
  | .bot, _ => True
  | .prim v, x => x = v
  | .frz es c, x => ∃ a len cap, x = .slice a len cap ∧ es.length = len ∧ len ≤ cap ∧ CapR C c a len cap ∧ (es = [] ∨ ∃ b o sz, a = some ⟨b, o, none⟩ ∧ PRows C.w C.Avoid b sz o es)
  | .fptr cs, x => ∃ b o vs, x = .pointer (some ⟨b, o, none⟩) ∧ Lie C.w C.Avoid b o vs ∧ PRs C.w C.Avoid cs vs
  | .agg cs, x => ∃ vs, x = .agg vs ∧ VRs C cs vs.toList
  | .tup cs, x => ∃ vs, x = .tuple vs ∧ VRs C cs vs.toList
  | .ref id ep off, x => ∃ b, x = .pointer (some ⟨b, off, none⟩) ∧ ep < C.n ∧ ∀ e, nth C.S id = some e → e.ep = ep → b = C.φ id
  | .sref id ep off len sz, x => ∃ b a cap, x = .slice a len cap ∧ len ≤ cap ∧ (len = 0 ∨ a = some ⟨b, off, none⟩) ∧ ep < C.n ∧ ∀ e, nth C.S id = some e → e.ep = ep → b = C.φ id
  | .fn f caps, x => ∃ vs, x = .func (.func f) #[] vs ∧ VRs C caps vs.toList
def VRs (C : Cx) : List AV → List Value → Prop
  | [], [] => True
  | c :: cs, v :: vs => VR C c v ∧ VRs C cs vs
  | _, _ => False
end

/-- the variables and tokens as they lie -/
structure SR [Globs] (C : Cx) : Prop where
  ent : ∀ id e, nth C.S id = some e → e.ep < C.n ∧ ∃ cs t, C.w.heap[C.φ id]? = some (.cells cs t (0, 0)) ∧ VRs C e.cells cs.toList
  ne : ∀ i j, i < C.S.length → j < C.S.length → C.φ i = C.φ j → i = j
  tok : ∀ i j o, i < C.tk.length → j < C.tk.length → (C.ψ i).1 = (C.ψ j).1 → (C.ψ i).2.1 ≤ o → o < (C.ψ i).2.2 → (C.ψ j).2.1 ≤ o → o < (C.ψ j).2.2 → i = j
  apart : ∀ i j o, i < C.S.length → j < C.tk.length → C.φ i = (C.ψ j).1 → (C.ψ j).2.1 ≤ o → o < (C.ψ j).2.2 → False
  own : ∀ b o, C.Mut b o → ¬ C.av b o
  avlt : ∀ b o, C.av b o → b < C.w.heap.size
  tlt : ∀ i o, i < C.tk.length → (C.ψ i).2.1 ≤ o → o < (C.ψ i).2.2 → (C.ψ i).1 < C.w.heap.size
  glob : ∀ g a, (g, a) ∈ Globs.gl → (∃ t fz, C.w.heap[g]? = some (.cells a t fz)) ∧ ∀ i, C.av g i

/-- from C to C': what was known lasts -/
structure Le (C C' : Cx) : Prop where
  os : C'.w.os = C.w.os
  tape : C'.w.tape = C.w.tape
  output : C'.w.output = C.w.output
  size : C.w.heap.size ≤ C'.w.heap.size
  av : C'.av = C.av
  n : C.n ≤ C'.n
  mt : ∀ b o, b < C.w.heap.size → C'.Mut b o → C.Mut b o
  cell : ∀ b o v, C.w.cell? ⟨b, o, none⟩ = some v → ¬ C.Mut b o → C'.w.cell? ⟨b, o, none⟩ = some v
  keep : ∀ b, b < C.w.heap.size → (∀ o, ¬ C.Mut b o) → C'.w.heap[b]? = C.w.heap[b]?
  shape : ∀ (b : Nat) (cs : Array Value) (t : TypeId) (fz : Nat × Nat), C.w.heap[b]? = some (Obj.cells cs t fz) → ∃ cs' : Array Value, C'.w.heap[b]? = some (Obj.cells cs' t fz) ∧ cs'.size = cs.size
  ent : ∀ id e', nth C'.S id = some e' → e'.ep < C.n → ∃ e, nth C.S id = some e ∧ e.ep = e'.ep ∧ C'.φ id = C.φ id
  tok : ∀ id k, nth C.tk id = some k → ∃ k', nth C'.tk id = some k' ∧ k ≤ k' ∧ (k' = k → C'.ψ id = C.ψ id)

theorem cell_lt {w : World} {b o : Nat} {v : Value} (h : w.cell? ⟨b, o, none⟩ = some v) : b < w.heap.size := by
  unfold World.cell? at h
  split at h
  · rename_i hh; exact (Array.getElem?_eq_some_iff.1 hh).1
  · cases h
theorem Le.stays {C C' : Cx} (h : Le C C') : Stays C.w C'.w C.Avoid C'.Avoid := fun b o v hv ha =>
  ⟨h.cell b o v hv fun m => ha (.inr m), fun ha' => ha (ha'.imp (fun x => h.av ▸ x) (h.mt b o (cell_lt hv)))⟩
theorem Le.refl (C : Cx) : Le C C := ⟨rfl, rfl, rfl, Nat.le_refl _, rfl, Nat.le_refl _, fun _ _ _ h => h, fun _ _ _ h _ => h, fun _ _ _ => rfl, fun _ cs _ _ h => ⟨cs, h, rfl⟩, fun _ e' h _ => ⟨e', h, rfl, rfl⟩, fun _ k h => ⟨k, h, Nat.le_refl _, fun _ => rfl⟩⟩
theorem Le.trans {a b c : Cx} (h : Le a b) (k : Le b c) : Le a c := by
  refine ⟨k.os.trans h.os, k.tape.trans h.tape, k.output.trans h.output, Nat.le_trans h.size k.size, k.av.trans h.av, Nat.le_trans h.n k.n, fun x o hx hm => h.mt x o hx (k.mt x o (Nat.lt_of_lt_of_le hx h.size) hm), fun x o v hv hm => ?_, fun x hx hm => ?_, fun x cs t fz hx => ?_, fun id e' he hn => ?_, fun id q hq => ?_⟩
  · exact k.cell x o v (h.cell x o v hv hm) fun hm' => hm (h.mt x o (cell_lt hv) hm')
  · rw [k.keep x (Nat.lt_of_lt_of_le hx h.size) fun o hm' => hm o (h.mt x o hx hm'), h.keep x hx hm]
  · obtain ⟨c1, h1, h2⟩ := h.shape x cs t fz hx
    obtain ⟨c2, h3, h4⟩ := k.shape x c1 t fz h1
    exact ⟨c2, h3, h4.trans h2⟩
  · obtain ⟨e1, h1, h2, h3⟩ := k.ent id e' he (Nat.lt_of_lt_of_le hn h.n)
    obtain ⟨e2, h4, h5, h6⟩ := h.ent id e1 h1 (by omega)
    exact ⟨e2, h4, by omega, by rw [h3, h6]⟩
  · obtain ⟨q1, h1, h2, h3⟩ := h.tok id q hq
    obtain ⟨q2, h4, h5, h6⟩ := k.tok id q1 h1
    exact ⟨q2, h4, by omega, fun e => by rw [h6 (by omega), h3 (by omega)]⟩

theorem glob_le [Globs] {C C' : Cx} (hs : SR C) (hle : Le C C') : ∀ g a, (g, a) ∈ Globs.gl → (∃ t fz, C'.w.heap[g]? = some (.cells a t fz)) ∧ ∀ i, C'.av g i := fun g a h => by
  obtain ⟨⟨t, fz, h1⟩, h2⟩ := hs.glob g a h
  exact ⟨⟨t, fz, by rw [hle.keep g (Array.getElem?_eq_some_iff.1 h1).1 (fun i m => hs.own g i m (h2 i))]; exact h1⟩, fun i => by rw [hle.av]; exact h2 i⟩
theorem CapR.mono {C C' : Cx} (h : Le C C') {c a len cap} (hc : CapR C c a len cap) : CapR C' c a len cap := by
  cases c with
  | unk => trivial
  | tight => exact hc
  | nilc => exact hc
  | nl => exact hc
  | nn => exact hc
  | tok id ep sz =>
    obtain ⟨k, h1, h2, h3⟩ := hc
    obtain ⟨k', h4, h5, h6⟩ := h.tok id k h1
    refine ⟨k', h4, by omega, fun e => ?_⟩
    rcases h3 (by omega) with h7 | ⟨b, cs, t, ea, hp, hb, hl⟩
    · exact .inl h7
    · obtain ⟨cs', h8, h9⟩ := h.shape b cs t _ hb
      exact .inr ⟨b, cs', t, ea, by rw [h6 (by omega), hp], h8, by omega⟩
section
variable {C C' : Cx}
mutual
theorem VR.mono (h : Le C C') : ∀ (c : AV) (x : Value), VR C c x → VR C' c x
  | .bot, _, _ => by simp only [VR]
  | .prim _, _, hx => by simpa only [VR] using hx
  | .frz es c, x, hx => by
    simp only [VR] at hx ⊢
    obtain ⟨a, len, cap, e, h1, h2, h3, h4⟩ := hx
    refine ⟨a, len, cap, e, h1, h2, h3.mono h, h4.imp id ?_⟩
    rintro ⟨b, o, sz, ea, hr⟩
    exact ⟨b, o, sz, ea, PRows.stays h.stays b sz o es hr⟩
  | .fptr cs, x, hx => by
    simp only [VR] at hx ⊢
    obtain ⟨b, o, vs, e, hl, hr⟩ := hx
    exact ⟨b, o, vs, e, hl.stays h.stays, PRs.stays h.stays cs vs hr⟩
  | .agg cs, x, hx => by
    simp only [VR] at hx ⊢
    obtain ⟨vs, e, hr⟩ := hx
    exact ⟨vs, e, VRs.mono h cs vs.toList hr⟩
  | .tup cs, x, hx => by
    simp only [VR] at hx ⊢
    obtain ⟨vs, e, hr⟩ := hx
    exact ⟨vs, e, VRs.mono h cs vs.toList hr⟩
  | .ref id ep off, x, hx => by
    simp only [VR] at hx ⊢
    obtain ⟨b, h0, hn, hx⟩ := hx
    refine ⟨b, h0, Nat.lt_of_lt_of_le hn h.n, fun e' he hep => ?_⟩
    obtain ⟨e, h1, h2, h3⟩ := h.ent id e' he (by omega)
    rw [h3]; exact hx e h1 (by omega)
  | .sref id ep off len sz, x, hx => by
    simp only [VR] at hx ⊢
    obtain ⟨b, a, cap, h0, h0', h0'', hn, hx⟩ := hx
    refine ⟨b, a, cap, h0, h0', h0'', Nat.lt_of_lt_of_le hn h.n, fun e' he hep => ?_⟩
    obtain ⟨e, h1, h2, h3⟩ := h.ent id e' he (by omega)
    rw [h3]; exact hx e h1 (by omega)
  | .fn f caps, x, hx => by
    simp only [VR] at hx ⊢
    obtain ⟨vs, e, hr⟩ := hx
    exact ⟨vs, e, VRs.mono h caps vs.toList hr⟩
theorem VRs.mono (h : Le C C') : ∀ (cs : List AV) (vs : List Value), VRs C cs vs → VRs C' cs vs
  | [], [], _ => by simp only [VRs]
  | c :: cs, v :: vs, hx => by simp only [VRs] at hx ⊢; exact ⟨VR.mono h c v hx.1, VRs.mono h cs vs hx.2⟩
  | [], _ :: _, hx => by simp only [VRs] at hx
  | _ :: _, [], hx => by simp only [VRs] at hx
end
end

/-- pure values: the two relations agree -/
theorem VR_of_PR {C : Cx} : ∀ {c x}, PR C.w C.Avoid c x → VR C c x
  | .prim _, _, h => by simp only [PR, VR] at h ⊢; exact h.1
  | .frz es .unk, _, h => by
    simp only [PR, VR] at h ⊢
    obtain ⟨a, len, cap, e, h1, h2, h3⟩ := h
    exact ⟨a, len, cap, e, h1, h2, trivial, h3⟩
  | .frz _ .tight, _, h => by simp only [PR] at h
  | .frz _ .nilc, _, h => by simp only [PR] at h
  | .frz _ .nl, _, h => by simp only [PR] at h
  | .frz _ .nn, _, h => by simp only [PR] at h
  | .frz _ (.tok _ _ _), _, h => by simp only [PR] at h
  | .fptr _, _, h => by simpa only [PR, VR] using h
  | .fn f [], _, h => by
    simp only [PR, VR] at h ⊢
    exact ⟨#[], h, by simp only [VRs]⟩
  | .fn _ (_ :: _), _, h => by simp only [PR] at h
  | .bot, _, h => by simp only [PR] at h
  | .agg _, _, h => by simp only [PR] at h
  | .tup _, _, h => by simp only [PR] at h
  | .ref _ _ _, _, h => by simp only [PR] at h
  | .sref _ _ _ _ _, _, h => by simp only [PR] at h
theorem PR_of_VR {C : Cx} {c x} (hp : pure1 c = true) (h : VR C c x) : PR C.w C.Avoid c x := by
  cases c with
  | prim v => simp only [PR, VR] at h ⊢; exact ⟨h, hp⟩
  | frz es c =>
    cases c <;> simp [pure1] at hp
    simp only [PR, VR] at h ⊢
    obtain ⟨a, len, cap, e, h1, h2, -, h3⟩ := h
    exact ⟨a, len, cap, e, h1, h2, h3⟩
  | fptr cs => simpa only [PR, VR] using h
  | fn f caps =>
    cases caps with
    | nil =>
      simp only [PR, VR] at h ⊢
      obtain ⟨vs, e, hr⟩ := h
      obtain ⟨l⟩ := vs
      cases l with
      | nil => exact e
      | cons _ _ => simp only [VRs] at hr
    | cons _ _ => simp [pure1] at hp
  | _ => simp [pure1] at hp
theorem VRs_of_PRs {C : Cx} : ∀ {cs vs}, PRs C.w C.Avoid cs vs → VRs C cs vs
  | [], [], _ => by simp only [VRs]
  | c :: cs, v :: vs, h => by simp only [PRs, VRs] at h ⊢; exact ⟨VR_of_PR h.1, VRs_of_PRs h.2⟩
  | [], _ :: _, h => by simp only [PRs] at h
  | _ :: _, [], h => by simp only [PRs] at h
theorem PRs_of_VRs {C : Cx} : ∀ {cs vs}, cs.all pure1 = true → VRs C cs vs → PRs C.w C.Avoid cs vs
  | [], [], _, _ => by simp only [PRs]
  | c :: cs, v :: vs, hp, h => by
    simp only [List.all_cons, Bool.and_eq_true] at hp
    simp only [PRs, VRs] at h ⊢
    exact ⟨PR_of_VR hp.1 h.1, PRs_of_VRs hp.2 h.2⟩
  | [], _ :: _, _, h => by simp only [VRs] at h
  | _ :: _, [], _, h => by simp only [VRs] at h
theorem VRs_length {C : Cx} : ∀ {cs vs}, VRs C cs vs → cs.length = vs.length
  | [], [], _ => rfl
  | _ :: cs, _ :: vs, h => by simp only [VRs] at h; simp [VRs_length h.2]
  | [], _ :: _, h => by simp only [VRs] at h
  | _ :: _, [], h => by simp only [VRs] at h
/-- to give up the right to append -/
theorem VR_w1 {C : Cx} {c x} (h : VR C c x) : VR C (w1 c) x := by
  cases c with
  | frz es c =>
    simp only [w1, VR] at h ⊢
    obtain ⟨a, len, cap, e, h1, h2, -, h3⟩ := h
    exact ⟨a, len, cap, e, h1, h2, trivial, h3⟩
  | _ => simpa only [w1] using h
theorem VRs_w1 {C : Cx} : ∀ {cs vs}, VRs C cs vs → VRs C (cs.map w1) vs
  | [], [], _ => by simp only [VRs, List.map_nil]
  | c :: cs, v :: vs, h => by simp only [VRs, List.map_cons] at h ⊢; exact ⟨VR_w1 h.1, VRs_w1 h.2⟩
  | [], _ :: _, h => by simp only [VRs] at h
  | _ :: _, [], h => by simp only [VRs] at h
theorem VR_w2 {C : Cx} {c x} (h : VR C c x) : VR C (w2 c) x := by
  cases c with
  | agg cs =>
    simp only [w2, VR] at h ⊢
    obtain ⟨vs, e, hr⟩ := h
    exact ⟨vs, e, VRs_w1 hr⟩
  | _ => exact VR_w1 h
theorem VRs_w2 {C : Cx} : ∀ {cs vs}, VRs C cs vs → VRs C (cs.map w2) vs
  | [], [], _ => by simp only [VRs, List.map_nil]
  | c :: cs, v :: vs, h => by simp only [VRs, List.map_cons] at h ⊢; exact ⟨VR_w2 h.1, VRs_w2 h.2⟩
  | [], _ :: _, h => by simp only [VRs] at h
  | _ :: _, [], h => by simp only [VRs] at h
theorem VRs_at {C : Cx} : ∀ {cs vs} {i : Nat} {c : AV}, VRs C cs vs → nth cs i = some c → ∃ v, vs[i]? = some v ∧ VR C c v
  | c :: cs, v :: vs, 0, _, h, e => by simp only [VRs] at h; simp only [nth, Option.some.injEq] at e; subst e; exact ⟨v, rfl, h.1⟩
  | c :: cs, v :: vs, i + 1, _, h, e => by simp only [VRs] at h; simp only [nth] at e; obtain ⟨x, h1, h2⟩ := VRs_at h.2 e; exact ⟨x, by simpa using h1, h2⟩
  | [], _, _, _, _, e => by simp [nth] at e
  | _ :: _, [], _, _, h, _ => by simp only [VRs] at h
theorem VRs_append {C : Cx} : ∀ {cs vs ds us}, VRs C cs vs → VRs C ds us → VRs C (cs ++ ds) (vs ++ us)
  | [], [], _, _, _, h => h
  | _ :: _, _ :: _, _, _, h, h' => by simp only [VRs, List.cons_append] at h ⊢; exact ⟨h.1, VRs_append h.2 h'⟩
  | [], _ :: _, _, _, h, _ => by simp only [VRs] at h
  | _ :: _, [], _, _, h, _ => by simp only [VRs] at h
theorem VRs_drop {C : Cx} : ∀ {cs vs} (n : Nat), VRs C cs vs → VRs C (cs.drop n) (vs.drop n)
  | [], [], n, _ => by simp only [List.drop_nil, VRs]
  | cs, vs, 0, h => h
  | _ :: cs, _ :: vs, n + 1, h => by simp only [VRs] at h; exact VRs_drop n h.2
  | [], _ :: _, _ + 1, h => by simp only [VRs] at h
  | _ :: _, [], _ + 1, h => by simp only [VRs] at h
theorem VRs_take {C : Cx} : ∀ {n cs vs ds}, VRs C cs vs → takeN n cs = some ds → VRs C ds (vs.take n) ∧ n ≤ vs.length
  | 0, _, _, _, _, e => by simp only [takeN, Option.some.injEq] at e; subst e; simp [VRs]
  | n + 1, c :: cs, v :: vs, _, h, e => by
    simp only [takeN, Option.map_eq_some_iff] at e
    obtain ⟨ds, h1, rfl⟩ := e
    simp only [VRs] at h
    obtain ⟨h2, h3⟩ := VRs_take h.2 h1
    exact ⟨by simp only [List.take_succ_cons, VRs]; exact ⟨h.1, h2⟩, by simpa using h3⟩
  | n + 1, [], _, _, _, e => by simp [takeN] at e
  | n + 1, _ :: _, [], _, h, _ => by simp only [VRs] at h

/-- the frame of a function as the evaluator sees it -/
structure Rel [Globs] (C : Cx) (st : St) (a : Act) : Prop where
  S : C.S = st.S
  tk : C.tk = st.tk
  n : C.n = st.n
  tmps : VRs C st.T a.tmps.toList
  defers : a.defers = []
  sr : SR C

theorem VR_cst1 {C : Cx} (v : Value) : VR C (cst1 v) v := by
  unfold cst1
  split <;> simp only [VR]
  exact ⟨none, 0, 0, rfl, rfl, Nat.le_refl _, ⟨rfl, rfl⟩, .inl trivial⟩
theorem VRs_cst1 {C : Cx} : ∀ vs : List Value, VRs C (vs.map cst1) vs
  | [] => by simp only [List.map_nil, VRs]
  | v :: vs => by simp only [List.map_cons, VRs]; exact ⟨VR_cst1 v, VRs_cst1 vs⟩
theorem VR_cst {C : Cx} (v : Value) : VR C (cst v) v := by
  unfold cst
  split
  · rename_i cs; simp only [VR]; exact ⟨cs, rfl, VRs_cst1 _⟩
  · exact VR_cst1 v
theorem getT_at {T : List AV} {t : Nat} (h : t < T.length) : nth T t = some (getT T t) := by
  induction T generalizing t with
  | nil => simp at h
  | cons x T ih => cases t with
    | zero => rfl
    | succ t => exact ih (by simpa using h)
theorem getT_out {T : List AV} {t : Nat} (h : T.length ≤ t) : getT T t = .bot := by
  induction T generalizing t with
  | nil => rfl
  | cons x T ih => cases t with
    | zero => simp at h
    | succ t => exact ih (by simpa using h)
theorem VR_opv {C : Cx} {T : List AV} {a : Act} (h : VRs C T a.tmps.toList) (x : Operand) : VR C (opv T x) (a.eval x) := by
  cases x with
  | tmp t =>
    simp only [opv, Act.eval]
    by_cases ht : t < T.length
    · obtain ⟨v, h1, h2⟩ := VRs_at h (getT_at ht)
      have : a.tmps.getD t undef = v := by
        rw [Array.getD_eq_getD_getElem?, ← Array.getElem?_toList, h1]; rfl
      rw [this]; exact h2
    · rw [getT_out (Nat.le_of_not_lt ht)]; simp only [VR]
  | const v => exact VR_cst v
  | global g => simp only [opv, VR]
  | func f => simp only [opv, Act.eval, VR]; exact ⟨#[], rfl, by simp only [VRs]⟩
theorem VRs_map {C : Cx} {T : List AV} {a : Act} (h : VRs C T a.tmps.toList) : ∀ l : List Operand, VRs C (l.map (opv T)) (l.map a.eval)
  | [] => by simp only [List.map_nil, VRs]
  | x :: l => by simp only [List.map_cons, VRs]; exact ⟨VR_opv h x, VRs_map h l⟩
theorem VRs_put {C : Cx} : ∀ {T vs} (d : Nat) {c v}, VRs C T vs → VR C c v → VRs C (put T d c) (vs.set d v)
  | [], [], _, _, _, _, _ => by simp only [put, List.set_nil, VRs]
  | _ :: _, _ :: _, 0, _, _, h, hv => by simp only [VRs, put, List.set_cons_zero] at h ⊢; exact ⟨hv, h.2⟩
  | _ :: _, _ :: _, d + 1, _, _, h, hv => by simp only [VRs, put, List.set_cons_succ] at h ⊢; exact ⟨h.1, VRs_put d h.2 hv⟩
  | [], _ :: _, _, _, _, h, _ => by simp only [VRs] at h
  | _ :: _, [], _, _, _, h, _ => by simp only [VRs] at h
theorem VRs_putT {C : Cx} {T : List AV} {a : Act} {d : Option Tmp} {c v} (h : VRs C T a.tmps.toList) (hv : VR C c v) : VRs C (putT T d c) (a.put d v).tmps.toList := by
  cases d with
  | none => exact h
  | some d => simp only [putT, Act.put, Array.toList_setIfInBounds]; exact VRs_put d h hv
end Go.Proofs.YtokncdoejnchfaaDoor
