/-
  Texts laid together: EvMore.
-/
import Derived.Test.YtmkoiandfojgmaaGreatZM9
namespace Go.Proofs.YtmkoiandfojgmaaGreat
open Go
section
variable {P : Program}
def aggB (b : BinOp) (k : Option (List Nat)) (xs ys : List AV) : Option AV :=
  match k with
  | some ks => match b with
    | .eql => (cellsEq ks xs ys).map .bool
    | .neq => (cellsEq ks xs ys).map fun c => .bool !c
    | _ => none
  | none => none
theorem aBin_agg {b : BinOp} {t : TypeId} {xs ys : List AV} : aBin P b t (.agg xs) (.agg ys) = aggB b (flatK P t) xs ys := rfl
theorem aggB_eql {ks : List Nat} {xs ys : List AV} : aggB .eql (some ks) xs ys = (cellsEq ks xs ys).map .bool := rfl
theorem aggB_neq {ks : List Nat} {xs ys : List AV} : aggB .neq (some ks) xs ys = (cellsEq ks xs ys).map fun c => .bool !c := rfl
def nilB (b : BinOp) (r : Option Bool) : Option AV :=
  match r with
  | some r => match b with
    | .eql => some (.bool r)
    | .neq => some (.bool !r)
    | _ => none
  | none => none
theorem aBin_nil {b : BinOp} {t : TypeId} {es : List (List AV)} {c : Cap} (h : (elemOf P t).isSome = true) : aBin P b t (.frz es c) (.frz [] .nilc) = nilB b (nilA es c) := by
  cases he : elemOf P t with
  | none => rw [he] at h; simp at h
  | some e => cases hn : nilA es c <;> simp only [aBin, nilB, he, hn] <;> cases b <;> rfl
theorem nilB_eql {r : Bool} : nilB .eql (some r) = some (.bool r) := rfl
theorem nilB_neq {r : Bool} : nilB .neq (some r) = some (.bool !r) := rfl
theorem cellEq_int {q : IntKind} {a b : Int} : cellEq 1 (.prim (.int q a)) (.prim (.int q b)) = some (a == b) := by simp [cellEq]
theorem cellEq_str {a b : ByteArray} : cellEq 2 (.prim (.string a)) (.prim (.string b)) = some (sEq a b) := rfl
theorem cellEq_bool {a b : Bool} : cellEq 0 (.prim (.bool a)) (.prim (.bool b)) = some (a == b) := rfl
def convI (d s : Option IntKind) (n : Int) : Option AV := match d, s with | some k, some _ => some (.prim (.int k (k.wrap n))) | _, _ => none
theorem aConv_int {s d : TypeId} {q : IntKind} {n : Int} : aConv P s d (.prim (.int q n)) = convI (intOfT P d) (intOfT P s) n := rfl
theorem convI_some {k q : IntKind} {n : Int} : convI (some k) (some q) n = some (.prim (.int k (k.wrap n))) := rfl
theorem aConv_str {s d : TypeId} {b : ByteArray} : aConv P s d (.prim (.string b)) = if (isStr P s && isStr P d) = true then some (.str b) else none := rfl
def apB (sz : Option Nat) (es : List (List AV)) (c : Cap) (ys : List (List AV)) (tk : List Nat) : Option (AV × List Nat) :=
  match sz with
  | some sz => if okCap tk c sz = true ∧ rowsOk sz es = true ∧ rowsOk sz ys = true ∧ roomA sz (es.length + ys.length) = true then some (.frz (es ++ ys) (capNew tk c sz), capPut tk c) else none
  | none => none
theorem apA_eq {t : TypeId} {es ys : List (List AV)} {c c' : Cap} {tk : List Nat} : apA P t (.frz es c) (.frz ys c') tk = apB (apT P t) es c ys tk := by
  unfold apA apB; cases apT P t <;> rfl
theorem apB1_frz [Globs] {t : TypeId} {es ys : List (List AV)} {c c' : Cap} {tk : List Nat} {S : List Ent} : apB1 P t (.frz es c) (.frz ys c') tk S = apB (apT P t) es c ys tk := apA_eq
theorem apB_all {sz : Nat} {es ys : List (List AV)} {c : Cap} {tk : List Nat} (h1 : okCap tk c sz = true) (h2 : rowsOk sz es = true) (h3 : rowsOk sz ys = true) (h4 : es.length + ys.length ≤ 1048576) : apB (some sz) es c ys tk = some (.frz (es ++ ys) (capNew tk c sz), capPut tk c) := by
  unfold apB; simp only; rw [if_pos ⟨h1, h2, h3, by unfold roomA; rw [decide_eq_true h4]; rfl⟩]
theorem apB_all3 {es ys : List (List AV)} {c : Cap} {tk : List Nat} (h1 : okCap tk c 3 = true) (h2 : rowsOk 3 es = true) (h3 : rowsOk 3 ys = true) (h4 : es.length + ys.length ≤ 3518437208883) : apB (some 3) es c ys tk = some (.frz (es ++ ys) (capNew tk c 3), capPut tk c) := by
  unfold apB; simp only; rw [if_pos ⟨h1, h2, h3, by unfold roomA; rw [decide_eq_true h4]; simp⟩]
theorem apB_one3 {es : List (List AV)} {y : List AV} {c : Cap} {tk : List Nat} (h1 : okCap tk c 3 = true) (h2 : rowsOk 3 es = true) (h3 : (y.length == 3) = true) (h4 : es.length + 1 ≤ 3518437208883) : apB (some 3) es c [y] tk = some (.frz (es ++ [y]) (capNew tk c 3), capPut tk c) :=
  apB_all3 h1 h2 (by simp [rowsOk]; simpa using h3) (by simpa using h4)
theorem apB_one {sz : Nat} {es : List (List AV)} {y : List AV} {c : Cap} {tk : List Nat} (h1 : okCap tk c sz = true) (h2 : rowsOk sz es = true) (h3 : (y.length == sz) = true) (h4 : es.length + 1 ≤ 1048576) : apB (some sz) es c [y] tk = some (.frz (es ++ [y]) (capNew tk c sz), capPut tk c) :=
  apB_all h1 h2 (by simp [rowsOk]; simpa using h3) (by simpa using h4)
theorem okCap_new {sz : Nat} {c : Cap} {tk : List Nat} (h : okCap tk c sz = true) : okCap (capPut tk c) (capNew tk c sz) sz = true := by
  have hn : ∀ (l : List Nat) (i v : Nat), i < l.length → nth (put l i v) i = some v := by
    intro l
    induction l with
    | nil => intro i v h; simp at h
    | cons a l ih =>
      intro i v h
      cases i with
      | zero => rfl
      | succ i => exact ih i v (by simpa using h)
  cases c with
  | unk => simp [okCap] at h
  | nl => simp [okCap] at h
  | nn => simp [okCap] at h
  | tight => simp only [capNew, capPut, okCap, nth_get]; simp
  | nilc => simp only [capNew, capPut, okCap, nth_get]; simp
  | tok id ep s =>
    simp only [okCap, Bool.and_eq_true, beq_iff_eq] at h
    simp only [capNew, capPut, okCap, hn _ _ _ (nth_lt h.2)]
    simp
theorem rowsOk_map {α : Type} {f : α → List AV} {sz : Nat} (h : ∀ a, (f a).length = sz) (l : List α) : rowsOk sz (l.map f) = true := by
  unfold rowsOk; simp [h]
def capIter (sz : Nat) : Nat → Cap × List Nat → Cap × List Nat
  | 0, x => x
  | m + 1, x => capIter sz m (capNew x.2 x.1 sz, capPut x.2 x.1)
theorem litA_nil {sz : Nat} {z : List AV} (h : (z.length == sz + 1 && z.all (fun c => pure1 (w1 c))) = true) : litA (some (sz + 1)) (some z) 0 [] = some (.frz [] .tight) := by
  simp only [Bool.and_eq_true, beq_iff_eq] at h
  rw [litA_some, if_pos ⟨h.1, h.2, by simp⟩]; rfl
theorem entAt_mid {S : List Ent} {n : Nat} {cs : List AV} {e : Ent} (hm : notM cs = true) : entAt (S ++ [⟨n, cs⟩] ++ [e]) S.length n = some cs := entAt_old (entAt_new hm)
theorem entAt_old2 {S : List Ent} {e e' : Ent} {id ep : Nat} {cs : List AV} (h : entAt S id ep = some cs) : entAt (S ++ [e] ++ [e']) id ep = some cs := entAt_old (entAt_old h)
theorem put_new {S : List Ent} {e e' : Ent} : put (S ++ [e]) S.length e' = S ++ [e'] := by
  induction S with
  | nil => rfl
  | cons a S ih => simp only [List.cons_append, List.length_cons, put, ih]
theorem put_mid {S : List Ent} {e e' e'' : Ent} : put (S ++ [e] ++ [e'']) S.length e' = S ++ [e'] ++ [e''] := by
  induction S with
  | nil => rfl
  | cons a S ih => simp only [List.cons_append, List.length_cons, put] at ih ⊢; rw [ih]
theorem take_two {S : List Ent} {e e' : Ent} : (S ++ [e] ++ [e']).take S.length = S := by
  rw [List.append_assoc, List.take_left']; rfl
theorem cL_w2 [Globs] [Ext P] {f : FuncId} {args args' : List AV} {S : List Ent} {tk : List Nat} {n : Nat} (h : args.map w2 = args'.map w2) (hp : (args.map w2).all pure2 = true) (hx : (Ext.on P f || Ext.mv P f) = false) : cL P f args S tk n = cL P f args' S tk n := by
  simp only [Bool.or_eq_false_iff] at hx
  have : ∀ k, evF P drawOk k f args S tk n = evF P drawOk k f args' S tk n := by
    intro k
    cases k with
    | zero => rfl
    | succ k =>
      simp only [evF, hx.1, hx.2, Bool.false_eq_true, if_false]
      rw [h] at hp ⊢
      simp only [hp, if_true]
  unfold cL
  congr 1; funext k; exact this k
theorem nth_int {l : List Int} {i : Nat} {x : Int} (h : nth l i = some x) : nth (l.map AV.int) i = some (.int x) := by
  induction l generalizing i with
  | nil => simp [nth] at h
  | cons y l ih => cases i with
    | zero => simp only [nth, Option.some.injEq] at h; subst h; rfl
    | succ i => exact ih h
theorem over_one {cs : List AV} {v w : AV} : ∀ {i : Nat}, nth cs i = some w → over cs i [v] = some (put cs i v) := by
  induction cs with
  | nil => intro i h; simp [nth] at h
  | cons c cs ih => intro i h; cases i with
    | zero => cases cs <;> rfl
    | succ i => simp only [over, ih (i := i) h, put, Option.map_some]
theorem put_map {α β : Type} {f : α → β} : ∀ {l : List α} {i : Nat} {v : α}, put (l.map f) i (f v) = (put l i v).map f
  | [], _, _ => rfl
  | _ :: _, 0, _ => rfl
  | _ :: l, i + 1, _ => by simp only [List.map_cons, put, put_map (l := l)]
theorem put_set {α : Type} : ∀ {l : List α} {i : Nat} {v : α}, put l i v = l.set i v
  | [], _, _ => rfl
  | _ :: _, 0, _ => rfl
  | _ :: l, i + 1, _ => by simp only [put, List.set_cons_succ, put_set (l := l)]
theorem drop_nth {α : Type} {l : List α} {o : Nat} {x : α} (h : nth l o = some x) : nth (l.drop o) 0 = some x := by
  rw [nth_get] at h ⊢
  rw [List.getElem?_drop]; exact h
theorem flat_one {v : AV} {c : Nat} : (List.replicate c [v]).flatten = List.replicate c v := by
  induction c with
  | zero => rfl
  | succ c ih => simp [List.replicate_succ, ih]
theorem rowsAt_one {α : Type} {f : α → AV} : ∀ {n : Nat} {l : List α}, n ≤ l.length → rowsAt 1 n (l.map f) = some ((l.take n).map fun x => [f x])
  | 0, _, _ => by simp [rowsAt]
  | n + 1, [], h => by simp at h
  | n + 1, x :: l, h => by
    simp only [List.map_cons, rowsAt, takeN, Option.map_some, List.drop_succ_cons, List.drop_zero, rowsAt_one (n := n) (l := l) (by simpa using h), List.take_succ_cons]
theorem rowsFz_int {l : List Int} : rowsFz (some (l.map fun x => [AV.int x])) = .frz (l.map fun x => [AV.int x]) .unk := by
  unfold rowsFz
  simp only
  rw [if_pos (by simp [pure1, w1, Value.oneCell'])]
  congr 1
  simp [w1]
end
set_option linter.defProp false in
def evs := And.intro @KX_seq <|
  And.intro @KX_skip <|
  And.intro @KX_exit <|
  And.intro @KX_ret <|
  And.intro @KX_if <|
  And.intro @KX_block <|
  And.intro @KX_region <|
  And.intro @KX_scope <|
  And.intro @KX_label <|
  And.intro @CX_seq <|
  And.intro @CX_block <|
  And.intro @CX_loop <|
  And.intro @CX_loopK <|
  And.intro @CX_exit_seq <|
  And.intro @CX_exit_block <|
  And.intro @CX_exit_loop <|
  And.intro @CX_ret <|
  And.intro @CX_ret_nil <|
  And.intro @CX_normal_nil <|
  And.intro @NX_some <|
  And.intro @NS_some <|
  And.intro @BR_true <|
  And.intro @BR_false <|
  And.intro @BR_not <|
  And.intro @fin1_BR <|
  And.intro @finS_BR <|
  And.intro @RX_nil <|
  And.intro @RX_guard <|
  And.intro @RX_move <|
  And.intro @RX_assign <|
  And.intro @RX_pick <|
  And.intro @RX_bin <|
  And.intro @RX_un <|
  And.intro @RX_conv <|
  And.intro @RX_extract <|
  And.intro @RX_field <|
  And.intro @RX_indexAddr <|
  And.intro @RX_fieldAddr <|
  And.intro @RX_index <|
  And.intro @RX_build <|
  And.intro @RX_buildSlice <|
  And.intro @RX_slice <|
  And.intro @RX_makeFunc <|
  And.intro @RX_makeBound <|
  And.intro @RX_load <|
  And.intro @ldG_off <|
  And.intro @ldG_on <|
  And.intro @RX_store <|
  And.intro @RX_alloc <|
  And.intro @RX_box <|
  And.intro @RX_append <|
  And.intro @RX_appendO <|
  And.intro @RX_len <|
  And.intro @RX_call <|
  And.intro @RX_callL <|
  And.intro @RX_callX <|
  And.intro @RX_callM <|
  And.intro @reM_app <|
  And.intro @RX_invoke <|
  And.intro @RX_invokeL <|
  And.intro @RX_makeM <|
  And.intro @RX_makeI <|
  And.intro @invV_ifc <|
  And.intro @invF_some <|
  And.intro @mthA_ifc <|
  And.intro @ifcA_ok <|
  And.intro @gO_refl <|
  And.intro @chkM_ref <|
  And.intro @chkM_fptr <|
  And.intro @chkM_fn <|
  And.intro @chkM_bfn <|
  And.intro @chkM_ifc <|
  And.intro @chkM_mfn <|
  And.intro @RX_callV <|
  And.intro @wantD_some <|
  And.intro @wantV_bool <|
  And.intro @wantV_undef <|
  And.intro @DX_zero <|
  And.intro @DX_succ <|
  And.intro @asB_bool <|
  And.intro @opv_tmp <|
  And.intro @opv_const <|
  And.intro @opv_func <|
  And.intro @cst_int <|
  And.intro @cst_bool <|
  And.intro @cst_string <|
  And.intro @cst_nil <|
  And.intro @cst_ptr <|
  And.intro @pickA_true <|
  And.intro @pickA_false <|
  And.intro @pickA_bool <|
  And.intro @extA_tup <|
  And.intro @fldV_agg <|
  And.intro @bldA_some <|
  And.intro @litA_some <|
  And.intro @orLit_some <|
  And.intro @orLit_none <|
  And.intro @callV_fn <|
  And.intro @callV_bfn <|
  And.intro @aBin_int <|
  And.intro @aBin_str <|
  And.intro @aBin_bool <|
  And.intro @fin1_some <|
  And.intro @finS_some <|
  And.intro @lenV_str <|
  And.intro @lenV_frz <|
  And.intro @lenV_sref <|
  And.intro @List.map_cons.{0,0} <|
  And.intro @List.map_nil.{0,0} <|
  And.intro @List.cons_append.{0} <|
  And.intro @List.nil_append.{0} <|
  And.intro @List.length_cons.{0} <|
  And.intro @List.length_nil.{0} <|
  And.intro @List.toList_toArray.{0} <|
  And.intro @Option.map_some.{0,0} <|
  And.intro @Option.map_none.{0,0} <|
  And.intro @Option.bind_some.{0,0} <|
  And.intro @Option.bind_none.{0,0} <|
  And.intro @Option.isSome_some.{0} <|
  And.intro @beq_true <|
  And.intro @beq_false <|
  And.intro @Bool.true_and <|
  And.intro @Bool.false_and <|
  And.intro @Bool.and_true <|
  And.intro @Bool.and_false <|
  And.intro @Bool.true_or <|
  And.intro @Bool.or_true <|
  And.intro @Bool.false_or <|
  And.intro @Bool.or_false <|
  And.intro @Bool.not_true <|
  And.intro @Bool.not_false <|
  And.intro @Bool.false_eq_true <|
  And.intro @true_implies <|
  And.intro @false_implies <|
  And.intro @and_true <|
  And.intro @true_and <|
  And.intro @Nat.zero_add <|
  And.intro @fin1_NX_not <|
  And.intro @fin1_NX_if <|
  And.intro @fin1_NS_not <|
  And.intro @fin1_NS_if <|
  And.intro @finS_NX_not <|
  And.intro @finS_NX_if <|
  And.intro @finS_NS_not <|
  And.intro @finS_NS_if <|
  And.intro @Option.some.injEq.{0} <|
  And.intro @AV.tup.injEq <|
  And.intro @AV.prim.injEq <|
  And.intro @AV.agg.injEq <|
  And.intro @AV.frz.injEq <|
  And.intro @Value.int.injEq <|
  And.intro @Value.bool.injEq <|
  And.intro @Value.string.injEq <|
  And.intro @List.cons.injEq.{0} <|
  And.intro @decide_true <|
  And.intro @decide_false <|
  And.intro @List.take_zero.{0} <|
  And.intro @List.take_nil.{0} <|
  And.intro @List.take_succ_cons.{0} <|
  And.intro @List.all_cons.{0} <|
  And.intro @List.all_nil.{0} <|
  And.intro @List.drop_zero.{0} <|
  And.intro @List.drop_succ_cons.{0} <|
  And.intro @List.drop_nil.{0} <|
  And.intro @List.length_map.{0,0} <|
  And.intro @intN_cast <|
  And.intro @intN_zero <|
  And.intro @aBin_agg <|
  And.intro @aggB_eql <|
  And.intro @aggB_neq <|
  And.intro @aBin_nil <|
  And.intro @nilB_eql <|
  And.intro @nilB_neq <|
  And.intro @cellEq_int <|
  And.intro @cellEq_str <|
  And.intro @cellEq_bool <|
  And.intro @apA_eq <|
  And.intro @apB_one <|
  And.intro @apB_all <|
  And.intro @entAt_mid <|
  And.intro @put_new <|
  And.intro @put_mid <|
  And.intro @take_two <|
  And.intro @List.replicate_succ.{0} <|
  And.intro @List.replicate_zero.{0} <|
  And.intro @aConv_int <|
  And.intro @convI_some <|
  And.intro @aConv_str <|
  And.intro @RX_makeSlice <|
  And.intro @RX_makeSlice0 <|
  And.intro @RX_copy <|
  And.intro @RX_appendS <|
  And.intro @RX_nilCheck <|
  And.intro @RX_min <|
  And.intro @RX_max <|
  And.intro @cvA_int <|
  And.intro @cvA_str <|
  And.intro @minA_int <|
  And.intro @maxA_int <|
  And.intro @aBin_refNil <|
  And.intro @aBin_fptrNil <|
  And.intro @aBin_nilNil <|
  And.intro @ptrNil_eql <|
  And.intro @ptrNil_neq <|
  And.intro @fz3_tup <|
  And.intro @fz3_agg <|
  And.intro @fz3_prim <|
  And.intro @fz3_frz <|
  And.intro @fz3_ref <|
  And.intro @fz3_fn <|
  And.intro @fz3_sref <|
  And.intro @fz2_agg <|
  And.intro @fz2_prim <|
  And.intro @fz2_frz <|
  And.intro @fz2_ref <|
  And.intro @fz2_fn <|
  And.intro @fz2_sref <|
  And.intro @fz1_prim <|
  And.intro @fz1_frz <|
  And.intro @fz1_ref <|
  And.intro @fz1_fn <|
  And.intro @fz1_sref <|
  And.intro @fz1_old <|
  And.intro @fzB_some <|
  And.intro @finM_BR <|
  And.intro @apB1_frz <|
  And.intro @apM_false <|
  And.intro @apM_look <|
  And.intro @callM_look <|
  And.intro @callM_vals <|
  And.intro @apM_vals <|
  And.intro @finM_some <|
  @apM_true
theorem Iz {p : Prop} (h : p) : p := h
theorem dqd {p : Prop} (h : p := by first | with_reducible assumption | exact ⟨rfl⟩ | (refine Iz ?_; kernel_rfl) | omega) : p := h
section
variable {P : Program} {fn : Func} [Globs] [Ext P] {f : FuncId} {c : Code} {args args' : List AV} {nt : Nat} {S : List Ent} {tk : List Nat} {n : Nat}
theorem opP {r : AV} (hf : P.funcs[f]? = some fn) (hnt : fn.ntmps = nt) (h : fin1 (KX P fn c ⟨args' ++ bots (nt - args.length), [], [], 0⟩ [] .mk) = some r) (hx : (Ext.on P f || Ext.mv P f) = false := by exact rfl) (hb : fn.body = some c := by exact rfl) (hnil : nilCmp c = false := by decide +kernel) (hname : (fn.name == "runtime.NumGoroutine") = false := by decide +kernel) (hargs : args.map w2 = args' := by exact rfl) (hp : args'.all pure2 = true := by exact rfl) (hp3 : pure3 r = true := by exact rfl) : cL P f args S tk n = some (r, S, tk, n) := call_pure hf hx hb hnil hname hnt hargs hp S tk n hp3 h
theorem opS {r : AV × List Ent × List Nat × Nat} (hf : P.funcs[f]? = some fn) (hnt : fn.ntmps = nt) (h : finS S.length (KX P fn c ⟨args ++ bots (nt - args.length), S, tk, n⟩ [] .mk) = some r) (hx : (Ext.on P f || Ext.mv P f) = false := by exact rfl) (hb : fn.body = some c := by exact rfl) (hname : (fn.name == "runtime.NumGoroutine") = false := by decide +kernel) (hp : (args.map w2).all pure2 = false := by exact rfl) : cL P f args S tk n = some r := call_shared hf hx hb hname hnt hp h
end
set_option linter.defProp false in
def evm0 := And.intro @RX_makeMap <|
  And.intro @KX_told <|
  And.intro @RX_buildSliceO <|
  And.intro @bsO_eq <|
  And.intro @lit2_eq <|
  And.intro @RX_lookup <|
  And.intro @RX_mapUpdate <|
  And.intro @RX_delete <|
  And.intro @lkM_eq <|
  And.intro @upM_eq <|
  And.intro @dlM_eq <|
  And.intro @mkM_eq <|
  And.intro @fz3_mref <|
  And.intro @fz2_mref <|
  And.intro @fz1_mref <|
  And.intro @notM_nil <|
  And.intro @notM_prim <|
  And.intro @notM_frz <|
  And.intro @notM_mref <|
  And.intro @notM_ref <|
  And.intro @notM_sref <|
  And.intro @notM_fn <|
  And.intro @notM_fptr <|
  And.intro @notM_ifc <|
  And.intro @AV.mref.injEq <|
  And.intro @AV.mset.injEq <|
  @mapAt_new
set_option linter.defProp false in
def evt := And.intro @evm0 <|
  And.intro @evs <|
  And.intro @KX_draw <|
  And.intro @KX_drawQ <|
  And.intro @KX_drawL <|
  And.intro @KX_drawV <|
  And.intro @KX_late <|
  And.intro @openL_one <|
  And.intro @openL_mk <|
  And.intro @openL_old <|
  And.intro @filtL_nil <|
  And.intro @filtL_mk <|
  And.intro @filtL_old <|
  And.intro @KX_tail <|
  And.intro @lastO_one <|
  And.intro @lastO_more <|
  And.intro @dropL_one <|
  And.intro @dropL_more <|
  And.intro @callP_eq <|
  And.intro @callM_true <|
  And.intro @LX_eq <|
  And.intro @nth.eq_1 <|
  And.intro @nth.eq_2 <|
  And.intro @nth.eq_3 <|
  And.intro @put.eq_1 <|
  And.intro @put.eq_2 <|
  And.intro @put.eq_3 <|
  And.intro @putT.eq_def <|
  And.intro @getT.eq_1 <|
  And.intro @getT.eq_2 <|
  And.intro @getT.eq_3 <|
  And.intro @binInt.eq_def <|
  And.intro @binStr.eq_def <|
  And.intro @binBool.eq_def <|
  And.intro @aUn.eq_def <|
  And.intro @outA.eq_def <|
  And.intro @resA.eq_def <|
  And.intro @mapO.eq_1 <|
  And.intro @mapO.eq_2 <|
  And.intro @resA1.eq_def <|
  And.intro @oneOf.eq_def <|
  And.intro @w1.eq_def <|
  And.intro @w2.eq_def <|
  And.intro @w3.eq_def <|
  And.intro @bots.eq_1 <|
  And.intro @bots.eq_2 <|
  And.intro @tabl.eq_1 <|
  And.intro @tabl.eq_2 <|
  And.intro @cellsOf.eq_def <|
  And.intro @fldA.eq_def <|
  And.intro @ldA.eq_def <|
  And.intro @stA.eq_def <|
  And.intro @partA.eq_def <|
  And.intro @takeN.eq_1 <|
  And.intro @takeN.eq_2 <|
  And.intro @takeN.eq_3 <|
  And.intro @over.eq_1 <|
  And.intro @over.eq_2 <|
  And.intro @over.eq_3 <|
  And.intro @over.eq_4 <|
  And.intro @over.eq_5 <|
  And.intro @leafOk.eq_def <|
  And.intro @idxA.eq_def <|
  And.intro @nilA.eq_def <|
  And.intro @cellsEq.eq_1 <|
  And.intro @cellsEq.eq_2 <|
  And.intro @cellsEq.eq_3 <|
  And.intro @fillA.eq_1 <|
  And.intro @fillA.eq_2 <|
  And.intro @elemsA.eq_1 <|
  And.intro @elemsA.eq_2 <|
  And.intro @pure1.eq_def <|
  And.intro @pure2.eq_def <|
  And.intro @reps.eq_1 <|
  And.intro @reps.eq_2 <|
  And.intro @chkA.eq_def <|
  And.intro @lastL.eq_def <|
  And.intro @Value.oneCell'.eq_def <|
  And.intro @cond_true.{1} <|
  And.intro @cond_false.{1} <|
  And.intro @if_true.{1} <|
  And.intro @if_false.{1} <|
  And.intro @ite_true.{1} <|
  And.intro @ite_false.{1} <|
  And.intro @implies_true.{1} <|
  And.intro @BEq.rfl.{0} @beq_self_eq_true.{0}
end Go.Proofs.YtmkoiandfojgmaaGreat
