/-
  Texts laid together: ULift.
-/
import Derived.Test.YtmkoiandfojgmaaGreatZM26
import Derived.Test.YtmkoiandfojgmaaGreatZM13
import Derived.Test.YtmkoiandfojgmaaGreatZM27
import Derived.Test.YtmkoiandfojgmaaGreatRows
import Derived.ProofKit
import Derived.Below
import Derived.Carry
import Derived.ChangeSame
import Derived.Lib.SmallJoins
import Derived.OpenShut
import Derived.JoinedCond
namespace Go.Proofs.YtmkoiandfojgmaaGreat
open Go Go.ChangeShapes Go.WideShapes Go.ChangeAt Go.RowKit
noncomputable instance deep200 : Depth := ⟨200, insP 200⟩
noncomputable instance ok200 : @ExtOk _ Tryz.prog E0 := ei_ok mixed 200
theorem deep_le : 200 ≤ Depth.d + 1 := by show 200 ≤ 200 + 1; omega
def C0 (W : World) : Cx := { w := W, av := fun _ _ => False, φ := fun _ => 0, ψ := fun _ => (0, 0, 0), S := [], tk := [], n := 0 }
theorem C0_mut {W : World} {b o : Nat} : ¬ (C0 W).Mut b o := by
  rintro (⟨i, hi, _⟩ | ⟨i, hi, _⟩)
  · simp [C0] at hi
  · simp [C0] at hi
theorem C0_avoid {W : World} {b o : Nat} : ¬ (C0 W).Avoid b o := by
  rintro (h | h)
  · exact h
  · exact C0_mut h
theorem C0_SR (W : World) : SR (C0 W) :=
  ⟨fun i e h => by simp [C0, nth] at h, fun i j hi => by simp [C0] at hi, fun i j o hi => by simp [C0] at hi, fun i j o hi => by simp [C0] at hi, fun b o h => absurd (Or.inr h) C0_avoid, fun b o h => h.elim, fun i o hi => by simp [C0] at hi, fun g a h => by simp [Globs.gl] at h⟩
theorem law_of {f : FuncId} {args : List AV} {W : World} {vs : Array Value} (h : cL Tryz.prog f args [] [] 0 = some (.bool true, [], [], 0)) (hv : VRs (C0 W) args vs.toList) :
    Calls Tryz.prog f vs W fun e w' => e = .returned (.bool true) ∧ Below W.heap.size W w' := by
  refine (calls_of mixed h (C := C0 W) rfl rfl rfl (C0_SR W) hv).mono ?_
  rintro e w' ⟨v, C', rfl, rfl, hle, -, -, -, -, hr⟩
  simp only [VR] at hr
  refine ⟨by rw [hr], ⟨hle.os, hle.tape, hle.output, hle.size, fun b hb => hle.keep b hb fun o hm => C0_avoid (.inr hm)⟩⟩
def types : List TypeId := [4, 9, 3, 50, 49, 35, 59, 178, 44, 53, 51, 55, 39, 70, 37, 41, 36, 94, 38, 185, 56, 187, 60, 190, 75, 189, 61, 63, 65, 27, 80, 76, 78, 22, 86, 83, 85, 23, 58, 24, 193, 179, 181, 25, 183, 26, 29]
set_option maxRecDepth 100000 in
theorem closed : closedT Tryz.prog types = true := by kernel_rfl
theorem bkR_mem : ∀ {es : List (List AV)} {x : List AV}, x ∈ es → bkC x ≤ bkR es
  | e :: es, x, h => by
    simp only [bkR]
    rcases List.mem_cons.1 h with rfl | h
    · omega
    · have := bkR_mem h; omega
theorem bkR_map {α : Type} {f : α → List AV} : ∀ {l : List α} {x : α}, x ∈ l → bkC (f x) ≤ bkR (l.map f) := fun h => bkR_mem (List.mem_map.2 ⟨_, h, rfl⟩)
theorem bkR_strs : ∀ l : List ByteArray, bkR (l.map strC) = bkSs l
  | [] => by simp [bkR, bkSs]
  | s :: l => by simp only [List.map_cons, bkR, bkSs, strC, bkC, bkV, bkR_strs l]; omega
mutual
theorem bk_pred : ∀ p : PT, bkC (predC p) = bkP p
  | .node _ _ _ ks => by simp only [predC, bkC, bkV, bkP, bk_preds ks]; omega
theorem bk_preds : ∀ l : List PT, bkR (predsC l) = bkPs l
  | [] => by simp [predsC, bkR, bkPs]
  | k :: l => by simp only [predsC, bkR, bkPs, bk_pred k, bk_preds l]
end
mutual
theorem bk_type : ∀ p : TT, bkC (typeC p) = bkT p
  | .node _ _ al ns p pp => by simp only [typeC, strsA, bkC, bkC_app, bkV, bkT, bk_types al, bk_pred p, bk_preds pp, bkR_strs]; omega
theorem bk_types : ∀ l : List TT, bkR (typesC l) = bkTs l
  | [] => by simp [typesC, bkR, bkTs]
  | k :: l => by simp only [typesC, bkR, bkTs, bk_type k, bk_types l]
end
theorem bk_params : ∀ l : List (ByteArray × TT), bkR (l.map paramC) = bkQs l
  | [] => by simp [bkR, bkQs]
  | p :: l => by simp only [List.map_cons, paramC, bkR, bkC, bkV, bkQs, bk_type, bk_params l]; omega
mutual
theorem bk_expr : ∀ e : XT, bkC (exprC e) = bkX e
  | .node _ _ _ ks ps al ts => by simp only [exprC, bkC, bkV, bkX, bk_exprs ks, bk_alts al, bk_params, bk_types]; omega
theorem bk_exprs : ∀ l : List XT, bkR (exprsC l) = bkXs l
  | [] => by simp [exprsC, bkR, bkXs]
  | k :: l => by simp only [exprsC, bkR, bkXs, bk_expr k, bk_exprs l]
theorem bk_alts : ∀ l : List LT, bkR (altsC l) = bkLs l
  | [] => by simp [altsC, bkR, bkLs]
  | .mk c ns b :: l => by simp only [altsC, altC, strsA, bkR, bkC, bkV, bkLs, bkL, bk_expr b, bk_alts l, bkR_strs]; omega
end
theorem pos_len {α : Type} {f : α → List AV} (hf : ∀ a, 1 ≤ bkC (f a)) : ∀ l : List α, l.length ≤ bkR (l.map f)
  | [] => Nat.zero_le _
  | a :: l => by have := hf a; have := pos_len hf l; simp only [List.map_cons, bkR, List.length_cons]; omega
theorem pos_app {α : Type} {f : α → List AV} : ∀ a b : List α, bkR ((a ++ b).map f) = bkR (a.map f) + bkR (b.map f)
  | [], b => by simp [bkR]
  | x :: a, b => by simp only [List.cons_append, List.map_cons, bkR, pos_app a b]; omega
theorem def_pos (d : DT) : 1 ≤ bkC (defC d) := by simp only [defC, bkC, bkV]; omega
theorem flat_bk : ∀ l : List NT, bkR ((l.flatMap NT.defs).map defC) ≤ bkR (l.map instC)
  | [] => by simp [bkR]
  | x :: l => by
    have := flat_bk l
    simp only [List.flatMap_cons, pos_app, List.map_cons, bkR, instC, bkC, bkC_app, bkV]; omega
theorem small_of {m : MT} (h : bkC (modC m) ≤ 1048576) : SmallM m := by
  simp only [modC, bkC, bkV] at h
  have hdefs : bkR ((allDefs m).map defC) ≤ 1048576 := by
    have := flat_bk m.insts
    rw [allDefs, pos_app]; omega
  have l1 := pos_len (f := dataC) (fun a => by simp only [dataC, bkC, bkV]; omega) m.datas
  have l2 := pos_len (f := classC) (fun a => by simp only [classC, bkC, bkV]; omega) m.classes
  have l3 := pos_len (f := instC) (fun a => by simp only [instC, bkC, bkV]; omega) m.insts
  have l4 := pos_len def_pos (allDefs m)
  refine ⟨by omega, fun d hd => ?_, by omega, fun c hc => ?_, by omega, fun x hx => ?_, by omega, fun d hd => ?_⟩
  · have h1 := bkR_map (f := dataC) hd
    simp only [dataC, bkC, bkV] at h1
    have h2 := pos_len (f := conC) (fun a => by simp only [conC, strsA, bkC, bkV]; omega) d.cons
    refine ⟨by omega, fun c hc => ?_⟩
    have h3 := bkR_map (f := conC) hc
    simp only [conC, strsA, bkC, bkV, bk_types] at h3
    omega
  · have h1 := bkR_map (f := classC) hc
    simp only [classC, bkC, bkV, bk_params] at h1
    have h2 := bkQs_len c.methods
    refine ⟨by omega, fun p hp => ?_⟩
    have := bkQs_mem hp
    omega
  · have h1 := bkR_map (f := instC) hx
    simp only [instC, bkC, bkC_app, bkV, bk_type] at h1
    omega
  · have h1 := bkR_map (f := defC) hd
    simp only [defC, strsA, bkC, bkC_app, bkV, bk_type, bk_expr, bkR_strs] at h1
    have h2 := bkSs_len d.params
    exact ⟨by omega, by omega, by omega⟩
theorem sh_pss {P : Program} {t : TypeId} {fs : Array Field} {avs : List AV} (hu : P.underlying t = some (.struct fs)) (h : Sh P t avs) : ∃ pss : List (List AV), avs = pss.flatten ∧ pss.length = fs.size ∧ ∀ i f p, fs[i]? = some f → nth pss i = some p → Sh P f.type p := sh_struct hu h
theorem map_all {α : Type} {f : α → List AV} {es : List (List AV)} (h : ∀ x ∈ es, ∃ c, x = f c) : ∃ cs : List α, es = cs.map f := by
  obtain ⟨cs, h1, -⟩ := map_of (f := f) (Q := fun _ => True) fun x hx => by obtain ⟨c, hc⟩ := h x hx; exact ⟨c, hc, trivial⟩
  exact ⟨cs, h1⟩
theorem sh_names {avs : List AV} (h : Sh Tryz.prog 44 avs) : ∃ l : List ByteArray, avs = [strsA l] := by
  obtain ⟨es, rfl, h1, -⟩ := sh_slice Tryz.underlying44 h
  obtain ⟨l, rfl⟩ := map_all (f := strC) fun x hx => by
    obtain ⟨s, rfl, -⟩ := sh_str Tryz.underlying9 (h1 x hx)
    exact ⟨s, rfl⟩
  exact ⟨l, rfl⟩
set_option maxRecDepth 100000 in
theorem sh_pred : ∀ (n : Nat) (avs : List AV), bkC avs ≤ n → Sh Tryz.prog 53 avs → ∃ p : PT, avs = predC p
  | 0, avs, hb, h => by
    obtain ⟨pss, rfl, hl, hp⟩ := sh_pss Tryz.underlying53 h
    match pss, hl with
    | [p0, p1, p2, p3], _ =>
    obtain ⟨o, rfl, -⟩ := sh_int Tryz.underlying50 (hp 0 _ p0 rfl rfl)
    simp [bkC, bkV] at hb
  | n + 1, avs, hb, h => by
    obtain ⟨pss, rfl, hl, hp⟩ := sh_pss Tryz.underlying53 h
    match pss, hl with
    | [p0, p1, p2, p3], _ =>
    obtain ⟨o, rfl, -⟩ := sh_int Tryz.underlying50 (hp 0 _ p0 rfl rfl)
    obtain ⟨s, rfl, -⟩ := sh_str Tryz.underlying9 (hp 1 _ p1 rfl rfl)
    obtain ⟨m, rfl, -⟩ := sh_int Tryz.underlying3 (hp 2 _ p2 rfl rfl)
    obtain ⟨es, rfl, h1, -⟩ := sh_slice Tryz.underlying51 (hp 3 _ p3 rfl rfl)
    simp only [List.flatten_cons, List.flatten_nil, List.cons_append, List.nil_append, bkC, bkV] at hb
    obtain ⟨ks, rfl⟩ := map_all (f := predC) fun x hx => sh_pred n x (by have := bkR_mem hx; omega) (h1 x hx)
    exact ⟨.node o s m ks, by simp only [predC, predsC_map]; rfl⟩
theorem sh_predS {avs : List AV} (h : Sh Tryz.prog 53 avs) : ∃ p : PT, avs = predC p := sh_pred _ _ (Nat.le_refl _) h
set_option maxRecDepth 100000 in
theorem sh_type : ∀ (n : Nat) (avs : List AV), bkC avs ≤ n → Sh Tryz.prog 55 avs → ∃ p : TT, avs = typeC p
  | 0, avs, hb, h => by
    obtain ⟨pss, rfl, hl, hp⟩ := sh_pss Tryz.underlying55 h
    match pss, hl with
    | [p0, p1, p2, p3, p4, p5], _ =>
    obtain ⟨o, rfl, -⟩ := sh_int Tryz.underlying49 (hp 0 _ p0 rfl rfl)
    simp [bkC, bkV] at hb
  | n + 1, avs, hb, h => by
    obtain ⟨pss, rfl, hl, hp⟩ := sh_pss Tryz.underlying55 h
    match pss, hl with
    | [p0, p1, p2, p3, p4, p5], _ =>
    obtain ⟨o, rfl, -⟩ := sh_int Tryz.underlying49 (hp 0 _ p0 rfl rfl)
    obtain ⟨s, rfl, -⟩ := sh_str Tryz.underlying9 (hp 1 _ p1 rfl rfl)
    obtain ⟨es, rfl, h1, -⟩ := sh_slice Tryz.underlying39 (hp 2 _ p2 rfl rfl)
    obtain ⟨ns, rfl⟩ := sh_names (hp 3 _ p3 rfl rfl)
    obtain ⟨p, rfl⟩ := sh_predS (hp 4 _ p4 rfl rfl)
    obtain ⟨es2, rfl, h2, -⟩ := sh_slice Tryz.underlying51 (hp 5 _ p5 rfl rfl)
    simp only [List.flatten_cons, List.flatten_nil, List.cons_append, List.nil_append, bkC, bkV] at hb
    obtain ⟨ks, rfl⟩ := map_all (f := typeC) fun x hx => sh_type n x (by have := bkR_mem hx; omega) (h1 x hx)
    obtain ⟨pp, rfl⟩ := map_all (f := predC) fun x hx => sh_predS (h2 x hx)
    exact ⟨.node o s ks ns p pp, by simp only [typeC, typesC_map, predsC_map, List.flatten_cons, List.flatten_nil, List.cons_append, List.nil_append, List.append_nil]⟩
theorem sh_typeS {avs : List AV} (h : Sh Tryz.prog 55 avs) : ∃ p : TT, avs = typeC p := sh_type _ _ (Nat.le_refl _) h
set_option maxRecDepth 100000 in
theorem sh_types {avs : List AV} (h : Sh Tryz.prog 39 avs) : ∃ l : List TT, avs = [.frz (typesC l) .unk] := by
  obtain ⟨es, rfl, h1, -⟩ := sh_slice Tryz.underlying39 h
  obtain ⟨l, rfl⟩ := map_all (f := typeC) fun x hx => sh_typeS (h1 x hx)
  exact ⟨l, by rw [typesC_map]⟩
set_option maxRecDepth 100000 in
theorem sh_param {avs : List AV} (h : Sh Tryz.prog 70 avs) : ∃ p : ByteArray × TT, avs = paramC p := by
  obtain ⟨p0, p1, rfl, h0, h1⟩ := sh_struct2 Tryz.underlying70 h
  obtain ⟨s, rfl, -⟩ := sh_str Tryz.underlying9 h0
  obtain ⟨t, rfl⟩ := sh_typeS h1
  exact ⟨(s, t), rfl⟩
set_option maxRecDepth 100000 in
theorem sh_expr : ∀ (n : Nat) (avs : List AV), bkC avs ≤ n → Sh Tryz.prog 41 avs → ∃ e : XT, avs = exprC e
  | 0, avs, hb, h => by
    obtain ⟨pss, rfl, hl, hp⟩ := sh_pss Tryz.underlying41 h
    match pss, hl with
    | [p0, p1, p2, p3, p4, p5, p6], _ =>
    obtain ⟨o, rfl, -⟩ := sh_int Tryz.underlying35 (hp 0 _ p0 rfl rfl)
    simp [bkC, bkV] at hb
  | n + 1, avs, hb, h => by
    obtain ⟨pss, rfl, hl, hp⟩ := sh_pss Tryz.underlying41 h
    match pss, hl with
    | [p0, p1, p2, p3, p4, p5, p6], _ =>
    obtain ⟨o, rfl, -⟩ := sh_int Tryz.underlying35 (hp 0 _ p0 rfl rfl)
    obtain ⟨s, rfl, -⟩ := sh_str Tryz.underlying9 (hp 1 _ p1 rfl rfl)
    obtain ⟨m, rfl, -⟩ := sh_int Tryz.underlying3 (hp 2 _ p2 rfl rfl)
    obtain ⟨es, rfl, h1, -⟩ := sh_slice Tryz.underlying36 (hp 3 _ p3 rfl rfl)
    obtain ⟨es2, rfl, h2, -⟩ := sh_slice Tryz.underlying37 (hp 4 _ p4 rfl rfl)
    obtain ⟨es3, rfl, h3, -⟩ := sh_slice Tryz.underlying38 (hp 5 _ p5 rfl rfl)
    obtain ⟨ts, rfl⟩ := sh_types (hp 6 _ p6 rfl rfl)
    simp only [List.flatten_cons, List.flatten_nil, List.cons_append, List.nil_append, bkC, bkV] at hb
    obtain ⟨ks, rfl⟩ := map_all (f := exprC) fun x hx => sh_expr n x (by have := bkR_mem hx; omega) (h1 x hx)
    obtain ⟨ps, rfl⟩ := map_all (f := paramC) fun x hx => sh_param (h2 x hx)
    obtain ⟨al, rfl⟩ := map_all (f := altC) fun x hx => by
      have hbx := bkR_mem hx
      obtain ⟨q0, q1, q2, rfl, g0, g1, g2⟩ := sh_struct3 Tryz.underlying94 (h3 x hx)
      obtain ⟨c, rfl, -⟩ := sh_str Tryz.underlying9 g0
      obtain ⟨ns, rfl⟩ := sh_names g1
      simp only [List.cons_append, List.nil_append, bkC, bkV] at hbx
      obtain ⟨b, rfl⟩ := sh_expr n q2 (by omega) g2
      exact ⟨.mk c ns b, rfl⟩
    exact ⟨.node o s m ks ps al ts, by simp only [exprC, exprsC_map, altsC_map]; rfl⟩
theorem sh_exprS {avs : List AV} (h : Sh Tryz.prog 41 avs) : ∃ e : XT, avs = exprC e := sh_expr _ _ (Nat.le_refl _) h
theorem sh_any {t e : TypeId} (hu : Tryz.prog.underlying t = some (.slice e)) {avs : List AV} (h : Sh Tryz.prog t avs) : ∃ es, avs = [.frz es .unk] := by
  obtain ⟨es, rfl, -⟩ := sh_slice hu h
  exact ⟨es, rfl⟩
set_option maxRecDepth 100000 in
theorem sh_def {avs : List AV} (h : Sh Tryz.prog 65 avs) : ∃ d : DT, avs = defC d := by
  obtain ⟨pss, rfl, hl, hp⟩ := sh_pss Tryz.underlying65 h
  match pss, hl with
  | [p0, p1, p2, p3, p4, p5], _ =>
  obtain ⟨s, rfl, -⟩ := sh_str Tryz.underlying9 (hp 0 _ p0 rfl rfl)
  obtain ⟨ns, rfl⟩ := sh_names (hp 1 _ p1 rfl rfl)
  obtain ⟨e, rfl⟩ := sh_exprS (hp 2 _ p2 rfl rfl)
  obtain ⟨m, rfl, -⟩ := sh_int Tryz.underlying59 (hp 3 _ p3 rfl rfl)
  obtain ⟨b, rfl⟩ := sh_bool Tryz.underlying4 (hp 4 _ p4 rfl rfl)
  have h5 := hp 5 _ p5 rfl rfl
  obtain ⟨qss, rfl, gl, gp⟩ := sh_pss Tryz.underlying63 h5
  match qss, gl with
  | [q0, q1, q2, q3, q4, q5], _ =>
  obtain ⟨e0, rfl⟩ := sh_any Tryz.underlying44 (gp 0 _ q0 rfl rfl)
  obtain ⟨e1, rfl⟩ := sh_any Tryz.underlying56 (gp 1 _ q1 rfl rfl)
  obtain ⟨e2, rfl⟩ := sh_any Tryz.underlying60 (gp 2 _ q2 rfl rfl)
  obtain ⟨e3, rfl⟩ := sh_any Tryz.underlying61 (gp 3 _ q3 rfl rfl)
  obtain ⟨t, rfl⟩ := sh_typeS (gp 4 _ q4 rfl rfl)
  obtain ⟨e5, rfl⟩ := sh_any Tryz.underlying51 (gp 5 _ q5 rfl rfl)
  exact ⟨⟨s, ns, e, m, b, e0, e1, e2, e3, t, e5⟩, by simp only [defC, List.flatten_cons, List.flatten_nil, List.cons_append, List.nil_append, List.append_nil]⟩
theorem sh_list {α : Type} {f : α → List AV} {t e : TypeId} (hu : Tryz.prog.underlying t = some (.slice e)) (hf : ∀ x, Sh Tryz.prog e x → ∃ a, x = f a) {avs : List AV} (h : Sh Tryz.prog t avs) : ∃ l : List α, avs = [.frz (l.map f) .unk] := by
  obtain ⟨es, rfl, h1, -⟩ := sh_slice hu h
  obtain ⟨l, rfl⟩ := map_all (f := f) fun x hx => hf x (h1 x hx)
  exact ⟨l, rfl⟩
set_option maxRecDepth 100000 in
theorem sh_con {avs : List AV} (h : Sh Tryz.prog 80 avs) : ∃ c : CT, avs = conC c := by
  obtain ⟨p0, p1, p2, rfl, h0, h1, h2⟩ := sh_struct3 Tryz.underlying80 h
  obtain ⟨s, rfl, -⟩ := sh_str Tryz.underlying9 h0
  obtain ⟨ns, rfl⟩ := sh_names h1
  obtain ⟨ts, rfl⟩ := sh_types h2
  exact ⟨⟨s, ns, ts⟩, rfl⟩
set_option maxRecDepth 100000 in
theorem sh_data {avs : List AV} (h : Sh Tryz.prog 78 avs) : ∃ c : AT, avs = dataC c := by
  obtain ⟨pss, rfl, hl, hp⟩ := sh_pss Tryz.underlying78 h
  match pss, hl with
  | [p0, p1, p2, p3], _ =>
  obtain ⟨s, rfl, -⟩ := sh_str Tryz.underlying9 (hp 0 _ p0 rfl rfl)
  obtain ⟨e1, rfl⟩ := sh_any Tryz.underlying44 (hp 1 _ p1 rfl rfl)
  obtain ⟨e2, rfl⟩ := sh_any Tryz.underlying75 (hp 2 _ p2 rfl rfl)
  obtain ⟨l, rfl⟩ := sh_list Tryz.underlying76 (fun x h => sh_con h) (hp 3 _ p3 rfl rfl)
  exact ⟨⟨s, e1, e2, l⟩, rfl⟩
set_option maxRecDepth 100000 in
theorem sh_method {avs : List AV} (h : Sh Tryz.prog 86 avs) : ∃ p : ByteArray × TT, avs = paramC p := by
  obtain ⟨p0, p1, rfl, h0, h1⟩ := sh_struct2 Tryz.underlying86 h
  obtain ⟨s, rfl, -⟩ := sh_str Tryz.underlying9 h0
  obtain ⟨t, rfl⟩ := sh_typeS h1
  exact ⟨(s, t), rfl⟩
set_option maxRecDepth 100000 in
theorem sh_class {avs : List AV} (h : Sh Tryz.prog 85 avs) : ∃ c : KT, avs = classC c := by
  obtain ⟨p0, p1, p2, rfl, h0, h1, h2⟩ := sh_struct3 Tryz.underlying85 h
  obtain ⟨s, rfl, -⟩ := sh_str Tryz.underlying9 h0
  obtain ⟨s2, rfl, -⟩ := sh_str Tryz.underlying9 h1
  obtain ⟨l, rfl⟩ := sh_list Tryz.underlying83 (fun x h => sh_method h) h2
  exact ⟨⟨s, s2, l⟩, rfl⟩
set_option maxRecDepth 100000 in
theorem sh_inst {avs : List AV} (h : Sh Tryz.prog 58 avs) : ∃ c : NT, avs = instC c := by
  obtain ⟨pss, rfl, hl, hp⟩ := sh_pss Tryz.underlying58 h
  match pss, hl with
  | [p0, p1, p2, p3], _ =>
  obtain ⟨s, rfl, -⟩ := sh_str Tryz.underlying9 (hp 0 _ p0 rfl rfl)
  obtain ⟨t, rfl⟩ := sh_typeS (hp 1 _ p1 rfl rfl)
  obtain ⟨e2, rfl⟩ := sh_any Tryz.underlying56 (hp 2 _ p2 rfl rfl)
  obtain ⟨l, rfl⟩ := sh_list Tryz.underlying27 (fun x h => sh_def h) (hp 3 _ p3 rfl rfl)
  exact ⟨⟨s, t, e2, l⟩, by simp only [instC, List.flatten_cons, List.flatten_nil, List.cons_append, List.nil_append, List.append_nil]⟩
set_option maxRecDepth 100000 in
theorem sh_mod {avs : List AV} (h : Sh Tryz.prog 29 avs) : ∃ m : MT, avs = modC m := by
  obtain ⟨pss, rfl, hl, hp⟩ := sh_pss Tryz.underlying29 h
  match pss, hl with
  | [p0, p1, p2, p3, p4, p5], _ =>
  obtain ⟨l0, rfl⟩ := sh_list Tryz.underlying22 (fun x h => sh_data h) (hp 0 _ p0 rfl rfl)
  obtain ⟨l1, rfl⟩ := sh_list Tryz.underlying23 (fun x h => sh_class h) (hp 1 _ p1 rfl rfl)
  obtain ⟨l2, rfl⟩ := sh_list Tryz.underlying24 (fun x h => sh_inst h) (hp 2 _ p2 rfl rfl)
  obtain ⟨e3, rfl⟩ := sh_any Tryz.underlying25 (hp 3 _ p3 rfl rfl)
  obtain ⟨e4, rfl⟩ := sh_any Tryz.underlying26 (hp 4 _ p4 rfl rfl)
  obtain ⟨l5, rfl⟩ := sh_list Tryz.underlying27 (fun x h => sh_def h) (hp 5 _ p5 rfl rfl)
  exact ⟨⟨l0, l1, l2, e3, e4, l5⟩, rfl⟩
mutual
theorem blk_le {H : Type} : ∀ d : DataW H, blk d ≤ Rows.uptoBulk d
  | .lit (.string b) => by simp [blk, Rows.uptoBulk]
  | .lit (.bool b) => by simp [blk, Rows.uptoBulk]
  | .lit (.int k n) => by simp [blk, Rows.uptoBulk]
  | .lit l => by cases l <;> simp [blk, Rows.uptoBulk]
  | .nil => by simp [blk, Rows.uptoBulk]
  | .slice e s => by have := blkA_le e; simp only [blk, Rows.uptoBulk]; omega
  | .agg ps => by have := blkA_le ps; simp only [blk, Rows.uptoBulk]; omega
  | .ptr _ => by simp [blk]
  | .iface _ _ => by simp [blk]
  | .map _ => by simp [blk]
  | .held _ => by simp [blk]
theorem blkA_le {H : Type} : ∀ l : List (DataW H), blkA l ≤ Rows.uptoBulkAll l
  | [] => by simp [blkA]
  | d :: l => by have := blk_le d; have := blkA_le l; simp only [blkA, Rows.uptoBulkAll]; omega
end
section
variable {H : Type} {enc : TypeId × Value → H} {w : World} {r : Reach} {b0 : Nat} {sp : Nat → Bool} {held : Bool} {v : Value} {d : DataW H} {p : List MemPlace}
set_option maxRecDepth 100000 in
theorem read {t : TypeId} (ht : t ∈ types) (h : DataW.Trod enc Tryz.prog w 0 sp held t v d p) : ∃ avs, Sh Tryz.prog t avs ∧ PRs w (C0 w).Avoid avs v.cells.toList ∧ bkC avs ≤ blk d :=
  open_Rd closed (fun b o v h => absurd h C0_avoid) ht h
set_option maxRecDepth 100000 in
theorem open_mod (hv : Value.okWide Tryz.prog w r b0 29 v) (h : DataW.Trod enc Tryz.prog w 0 sp held 29 v d p) (hk : Rows.uptoSmall H [d] = true) : ∃ m : MT, VR (C0 w) (.agg (modC m)) v ∧ SmallM m := by
  obtain ⟨avs, h1, h2, h3⟩ := read (by simp [types]) h
  obtain ⟨m, rfl⟩ := sh_mod h1
  have hd : Rows.uptoBulkAll [d] ≤ 1048576 := of_decide_eq_true hk
  simp only [Rows.uptoBulkAll] at hd
  have := blk_le d
  obtain ⟨xs, rfl, -⟩ := okWide_struct Tryz.underlying29 hv
  exact ⟨m, agg_of h2, small_of (by omega)⟩
set_option maxRecDepth 100000 in
theorem open_expr (hv : Value.okWide Tryz.prog w r b0 41 v) (h : DataW.Trod enc Tryz.prog w 0 sp held 41 v d p) (hk : Rows.uptoSmall H [d] = true) : ∃ e : XT, VR (C0 w) (.agg (exprC e)) v ∧ bkX e ≤ 1048576 := by
  obtain ⟨avs, h1, h2, h3⟩ := read (by simp [types]) h
  obtain ⟨m, rfl⟩ := sh_exprS h1
  have hd : Rows.uptoBulkAll [d] ≤ 1048576 := of_decide_eq_true hk
  simp only [Rows.uptoBulkAll] at hd
  have := blk_le d
  rw [bk_expr] at h3
  obtain ⟨xs, rfl, -⟩ := okWide_struct Tryz.underlying41 hv
  exact ⟨m, agg_of h2, by omega⟩
end
section
variable {H : Type} {enc : TypeId × Value → H} {P : Program}
theorem post_of_below {f : Func} {s : ChangeSpec} {apart fresh handsOn again : Bool} {W W' : World} {args : Array Value} {v : Value} {ds gs : List (DataW H)} {before pa pv : List MemPlace}
    (hW : DataW.Whole enc P f.params.toList s.vars apart W args.toList ds gs before)
    (hres : ∀ (b : Nat) (sp : Nat → Bool) (hd : Bool), DataW.TrodAll enc P W' b sp hd f.resultTypes.toList (v.resultList f.resultTypes.size) (s.fn H (ds ++ gs)).results [])
    (hargs : ∀ sp : Nat → Bool, (∀ p ∈ before, sp p.block = true) → DataW.TrodAll enc P W' 0 sp true f.params.toList args.toList (s.fn H (ds ++ gs)).args pa)
    (hvars : ∀ sp : Nat → Bool, (∀ p ∈ before, sp p.block = true) → DataW.TrodVars enc P W' sp s.vars (s.fn H (ds ++ gs)).vars pv)
    (hps : before = pa ++ pv) (hb : Below W.heap.size W W')
    (hok : ∀ (j : Nat) (t : TypeId) (r : Value), f.resultTypes[j]? = some t → (v.resultList f.resultTypes.size)[j]? = some r → Value.okWide P W' .any 0 t r) :
    s.post enc P f apart fresh handsOn again W args v W' := by
  have hlt : ∀ p ∈ before, p.block < W.heap.size := fun p hp => hW.lt p hp
  have hold : ∀ p ∈ before, (fun b => decide (b < W.heap.size)) p.block = true := fun p hp => by simpa using hlt p hp
  refine ⟨ds, gs, before, [], pa, pv, hW, hres _ _ _, hargs _ hold, hvars _ hold, World.keptBut_mono (fun p hp => ⟨hp, ?_⟩) (hb.frame (· ∈ before)), fun _ => ?_⟩
  · rw [hps, List.mem_append] at hp
    exact Or.inr hp
  · obtain ⟨_, _, _, _, _, hz, hn⟩ := hW
    refine ⟨hok, _, _, ([] ++ pa) ++ pv, ⟨[] ++ pa, pv, trodAll_append (hargs _ (fun _ _ => rfl)) (hres _ _ _), hvars _ (fun _ _ => rfl), rfl, ?_, ?_⟩, ?_⟩
    · intro b off hp
      have hin : MemPlace.cell b off ∈ before := by rw [hps]; simpa using hp
      rw [hb.frozen (hlt _ hin)]
      exact hz b off hin
    · intro ha
      have := hn ha
      rw [hps] at this
      simpa using this
    · intro p hp _
      rw [hps]
      simpa using hp
end
set_option maxRecDepth 100000 in
theorem shut_Bool {H : Type} {enc : TypeId × Value → H} {W : World} {base : Nat} {sp : Nat → Bool} {held : Bool} (b : Bool) : DataW.Trod enc Tryz.prog W base sp held 4 (.bool b) (.lit (.bool b)) [] := ⟨1, by simp [DataW.trod, Value.cells, Tryz.underlying4]⟩
set_option maxRecDepth 100000 in
theorem okWide_Bool {W : World} (c : Bool) : Value.okWide Tryz.prog W .any 0 4 (.bool c) := by simp [Value.okWide, Tryz.underlying4, Cell.okWide, Cell.ok]
theorem Try.own : ownKnob Tryz.prog.godebug = none := by kernel_rfl
theorem Try.laidOut : laidOutB Tryz.prog = true := by kernel_rfl
end Go.Proofs.YtmkoiandfojgmaaGreat
