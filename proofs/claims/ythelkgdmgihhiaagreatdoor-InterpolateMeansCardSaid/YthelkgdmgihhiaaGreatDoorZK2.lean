/- Part 2. -/
import Derived.Test.YthelkgdmgihhiaaGreatDoorZK1
import Derived.Laws.StructEq
import Derived.Lib.SliceRun
namespace Go.Proofs.YthelkgdmgihhiaaGreatDoor
section
section
variable {P:Program}
theorem J9 (w:World) (t e:TypeId) (a:Option Addr) (n c n' c':Nat) (h:P.underlying t=some (.slice e)) :
  (binOp .neq t (.slice a n c) (.slice none n' c')).run P w=.ok (.bool (!a.isNone)) w:=by
 simp only [binOp]
 simp [Op.equal,Op.maxDepth,Lib.run_equalIn_slice_nil w 9999 t e a n c n' c' h]
theorem An {w:World} {t:TypeId} {d:TypeDesc} (h:P.underlying t=some d):(underlying t).run P w=.ok d w:=by simp [underlying,h]
theorem B5 {w:World} {t:TypeId} {s:Nat} (h:szOf P t=some s):(Go.sizeOf t).run P w=.ok s w:=by
 simp only [szOf,Option.map_eq_some_iff] at h
 obtain ⟨i,h1,h2⟩:=h
 simp [Go.sizeOf,typeInfo,h1,h2]
theorem Jm {w:World} {t:TypeId} {b:Bool} (h:aggT P t=some b):(isAgg t).run P w=.ok b w:=by
 simp only [aggT,Option.map_eq_some_iff] at h
 obtain ⟨d,h1,h2⟩:=h
 subst h2
 unfold isAgg
 simp only [Sem.run_bind,An h1,Result.andThen_ok]
 cases d <;> rfl
theorem Be {t e:TypeId} (h:Au P t=some e):P.underlying t=some (.slice e):=by
 unfold Au at h
 split at h
 ·rename_i h'; simp only [Option.some.injEq] at h; rw [h',h]
 ·cases h
theorem Eh {t:TypeId} (h:Aj P t=true):P.underlying t=some .string:=by
 unfold Aj at h
 split at h
 ·assumption
 ·cases h
theorem Km {t:TypeId} {k} (h:Ef P t=some k):P.underlying t=some (.int k):=by
 unfold Ef at h
 split at h
 ·rename_i h'; simp only [Option.some.injEq] at h; rw [h',h]
 ·cases h
def Has (P:Program) (C:Cx) (s:Sem Value) (av:AV):Prop:=∃ v,s.run P C.w=.ok v C.w/\VR C av v
theorem Has.mk {C:Cx} {s:Sem Value} {v:Value} (h:s.run P C.w=.ok v C.w):Has P C s (.prim v):=⟨v,h,by simp only [VR]⟩
theorem Q4 {C:Cx} {b:BinOp} {k:IntKind} {x y:Int} {av:AV} {t:TypeId} (h:binInt b k x y=some av):Has P C (binOp b t (.int k x) (.int k y)) av:=by
 cases b <;> simp only [binInt] at h
 case quo =>
  split at h
  ·simp at h
  ·rename_i h0; simp only [Option.some.injEq] at h; subst h; exact .mk (by simp [binOp,Op.intDiv,h0])
 case rem =>
  split at h
  ·simp at h
  ·rename_i h0; simp only [Option.some.injEq] at h; subst h; exact .mk (by simp [binOp,Op.intDiv,h0])
 case shr =>
  split at h
  ·rename_i h0; simp only [Option.some.injEq] at h; subst h
   obtain ⟨h1,h2,h3⟩:=h0
   have e:min y.toNat k.bits=y.toNat:=by omega
   exact .mk (by simp [binOp,Op.shift,e]; omega)
  ·simp at h
 all_goals first
  | (simp only [Option.some.injEq] at h; subst h; refine .mk ?_; simp [binOp,Op.intArith,Op.intCmp]; done)
  | (simp at h; done)
theorem Q5 {C:Cx} {b:BinOp} {x y:ByteArray} {av:AV} {t:TypeId} (h:binStr b x y=some av):Has P C (binOp b t (.string x) (.string y)) av:=by
 cases b <;> simp only [binStr] at h
 case add =>
  split at h
  ·rename_i h0; simp only [Option.some.injEq] at h; subst h
   refine .mk ?_
   have:¬ ((x.size+y.size:Nat):Int) > IntKind.i64.max:=by simp [IntKind.max,IntKind.bits,IntKind.signed]; omega
   simp only [binOp,Op.stringOp,if_neg this]; rfl
  ·simp at h
 all_goals first
  | (simp only [Option.some.injEq] at h; subst h; refine .mk ?_; simp [binOp,Op.stringOp,sEq,sLt]; done)
  | (simp at h; done)
theorem Bh {w:World} {b:BinOp} {t:TypeId} {ox oy:Operand} {x y:Value} (h:(∀ cs,x≠.agg cs)/\x≠.nilIface):(eqGuard b t ox oy x y).run P w=.ok () w:=by
 unfold eqGuard
 cases x <;> first|exact absurd rfl h.2|exact absurd rfl (h.1 _)|(cases y <;> cases b <;> rfl)
theorem Q9 {C:Cx} {w:World} {k:Nat} {x y:AV} {vx vy:Value} {c:Bool} (h:Lr k x y=some c) (hx:VR C x vx) (hy:VR C y vy) {t:TypeId} {d:Nat}
  (ht:Rv P t=some k):(Op.equalIn (d+1) t vx vy).run P w=.ok c w:=by
 unfold Lr at h
 split at h
 ·simp only [VR] at hx hy; subst hx hy
  simp only [Option.some.injEq] at h; subst h
  refine run_equalIn_bool' w d t _ _ ?_
  unfold Rv at ht; split at ht <;> simp at ht; assumption
 ·split at h
  ·rename_i hk; subst hk
   simp only [VR] at hx hy; subst hx hy
   simp only [Option.some.injEq] at h; subst h
   unfold Rv at ht; split at ht <;> simp at ht
   rename_i h'; exact run_equalIn_int w d t _ _ _ _ h'
  ·simp at h
 ·simp only [VR] at hx hy; subst hx hy
  simp only [Option.some.injEq] at h; subst h
  unfold Rv at ht; split at ht <;> simp at ht
  rename_i h'; exact run_equalIn_string w d t _ _ h'
 ·simp at h
theorem H4 {C:Cx} {w:World} {d:Nat} : ∀ {fs:List Field} {i:Nat} {ks:List Nat} {xs ys:List AV} {vx vy:Array Value} {c:Bool},Ma P i fs=some ks->cellsEq ks xs ys=some c ->
  VRs C xs (vx.toList.drop i)->VRs C ys (vy.toList.drop i)->(Op.eqFields (d+1) vx vy fs).run P w=.ok c w
 | [],i,ks,xs,ys,vx,vy,c,hk,h,hx,hy=>by
  simp only [Ma,Option.some.injEq] at hk
  subst hk
  cases xs <;> cases ys <;> simp only [cellsEq] at h
  ·simp at h; subst h; rfl
  all_goals simp at h
 | f :: fs,i,ks,xs,ys,vx,vy,c,hk,h,hx,hy=>by
  simp only [Ma] at hk
  split at hk
  ·simp at hk
  ·rename_i hn
   simp only [not_or,Decidable.not_not] at hn
   obtain ⟨h1,h2,h3⟩:=hn
   split at hk
   ·rename_i k ks' pm iz
    simp only [Option.some.injEq] at hk; subst hk
    cases xs with
    | nil=>simp [cellsEq] at h
    | cons x xs=>cases ys with
     | nil=>simp [cellsEq] at h
     | cons y ys =>
      simp only [cellsEq] at h
      split at h
      ·rename_i a b ha hb
       simp only [Option.some.injEq] at h; subst h
       have key:∀ {xs:List AV} {x:AV} {vx:Array Value},VRs C (x :: xs) (vx.toList.drop i)->∃ v,vx[i]?=some v/\VR C x v/\VRs C xs (vx.toList.drop (i+1)):=by
        intro xs x vx hx
        cases hd:vx.toList.drop i with
        | nil=>rw [hd] at hx; simp only [VRs] at hx
        | cons v vs =>
         rw [hd] at hx; simp only [VRs] at hx
         have e0:vx.toList[i]?=some v:=by
          have:=congrArg (fun l=>l[0]?) hd
          simpa using this
         have e1:vx.toList.drop (i+1)=vs:=by
          have:=congrArg List.tail hd
          simpa using this
         exact ⟨v,by simpa using e0,hx.1,by rw [e1]; exact hx.2⟩
       obtain ⟨u,hu,pn,jy⟩:=key hx
       obtain ⟨v,hv,i2,i4⟩:=key hy
       have e:=Q9 (P:=P) (w:=w) (d:=d) ha pn i2 pm
       have ih:=H4 (w:=w) (d:=d) iz hb jy i4
       simp only [Op.eqFields,ne_eq,h1,not_false_eq_true,if_true,part,Sem.run_bind,Jm h3,Result.andThen_ok,h2,hu,hv,Sem.run_pure,Bool.false_eq_true,if_false,e,Sem.run_ite,ih]
       cases a <;> simp
      ·simp at h
   ·simp at hk
theorem J8 {w:World} {t e:TypeId} {p:Option Addr} (h:P.underlying t=some (.pointer e)):(Op.equal t (.pointer p) (.pointer none)).run P w=.ok p.isNone w:=by
 have hd:Op.maxDepth=9999+1:=rfl
 unfold Op.equal
 rw [hd,Op.equalIn]
 cases p <;> simp [An h,samePointer]
theorem Hh {C:Cx} {b:BinOp} {t:TypeId} {ox oy:Operand} {p:Option Addr} {r:Bool} {av:AV} (h:Ja b (Rq P t) r=some av) (hr:r=p.isNone):Has P C (do eqGuard b t ox oy (.pointer p) (.pointer none); binOp b t (.pointer p) (.pointer none)) av:=by
 unfold Ja at h
 split at h
 ·rename_i hp
  unfold Rq at hp
  split at hp
  ·rename_i e he
   subst hr
   split at h
   ·simp only [Option.some.injEq] at h; subst h
    refine .mk ?_
    rw [Sem.run_bind,Bh (by simp)]
    simp only [Result.andThen_ok,binOp,Sem.run_bind,J8 he,Sem.run_pure]
   ·simp only [Option.some.injEq] at h; subst h
    refine .mk ?_
    rw [Sem.run_bind,Bh (by simp)]
    simp only [Result.andThen_ok,binOp,Sem.run_bind,J8 he,Sem.run_pure]
   ·simp at h
  ·simp at hp
 ·simp at h
theorem Wr {C:Cx} {b:BinOp} {t:TypeId} {ox oy:Operand} {x y av:AV} {vx vy:Value} (hx:VR C x vx) (hy:VR C y vy) (h:aBin P b t x y=some av):Has P C (do eqGuard b t ox oy vx vy; binOp b t vx vy) av:=by
 unfold aBin at h
 split at h
 ·split at h
  ·rename_i hk; subst hk
   simp only [VR] at hx hy; subst hx hy
   obtain ⟨v,h1,h2⟩:=Q4 (P:=P) (C:=C) (t:=t) h
   exact ⟨v,by rw [Sem.run_bind,Bh (by simp)]; exact h1,h2⟩
  ·simp at h
 ·simp only [VR] at hx hy; subst hx hy
  obtain ⟨v,h1,h2⟩:=Q5 (P:=P) (C:=C) (t:=t) h
  exact ⟨v,by rw [Sem.run_bind,Bh (by simp)]; exact h1,h2⟩
 ·simp only [VR] at hx hy; subst hx hy
  split at h
  ·rename_i ht
   cases b <;> simp only [binBool] at h
   case eql=>simp only [Option.some.injEq] at h; subst h; refine .mk ?_; rw [Sem.run_bind,Bh (by simp)]; simp [binOp,run_equal_bool _ _ _ _ ht]
   case neq=>simp only [Option.some.injEq] at h; subst h; refine .mk ?_; rw [Sem.run_bind,Bh (by simp)]; simp [binOp,run_equal_bool _ _ _ _ ht]
   all_goals simp at h
  ·simp at h
 ·simp only [VR] at hx hy
  obtain ⟨vs,rfl,hx⟩:=hx
  obtain ⟨us,rfl,hy⟩:=hy
  split at h
  ·rename_i ks hks
   unfold Ace at hks
   split at hks
   ·rename_i fs hu
    split at hks
    ·rename_i hh
     have hf:P.underlying t=some (.struct (P.fieldsOf t)):=by unfold Program.fieldsOf; rw [hu]
     have po:(P.fieldsOf t).toList=fs.toList:=by unfold Program.fieldsOf; rw [hu]
     have e:∀ c,cellsEq ks _ _=some c->(Op.equalIn 10000 t (.agg vs) (.agg us)).run P C.w=.ok c C.w:=fun c hc=>by
      rw [run_equalIn_agg C.w 9999 t vs us hf hh.1,po]
      exact H4 hks hc (by simpa using hx) (by simpa using hy)
     cases b <;> simp only [] at h
     case eql =>
      simp only [Option.map_eq_some_iff] at h
      obtain ⟨c,hc,rfl⟩:=h
      refine .mk ?_
      rw [Sem.run_bind,run_eqGuard_agg _ _ _ _ _ _ _ hh.2,Result.andThen_ok,run_eql_struct,e c hc]; rfl
     case neq =>
      simp only [Option.map_eq_some_iff] at h
      obtain ⟨c,hc,rfl⟩:=h
      refine .mk ?_
      rw [Sem.run_bind,run_eqGuard_agg _ _ _ _ _ _ _ hh.2,Result.andThen_ok,run_neq_struct,e c hc]; rfl
     all_goals simp at h
    ·simp at hks
   ·simp at hks
  ·simp at h
 ·simp only [VR] at hx hy
  obtain ⟨p,rfl,-⟩:=hx
  subst hy
  exact Hh h rfl
 ·simp only [VR] at hx hy
  obtain ⟨p,o,vs,rfl,-⟩:=hx
  subst hy
  exact Hh h rfl
 ·simp only [VR] at hx hy
  subst hx hy
  exact Hh h rfl
 ·split at h
  ·rename_i es c e r he hn
   simp only [VR] at hx hy
   obtain ⟨a,len,cap,rfl,h1,h2,h3,h4⟩:=hx
   obtain ⟨a2,len2,cap2,rfl,g1,g2,g3,g4⟩:=hy
   obtain ⟨rfl,g3⟩:=(g3:a2=none/\cap2=len2)
   have ht:P.underlying t=some (.slice e):=by
    unfold Au at he
    split at he
    ·simp only [Option.some.injEq] at he; subst he; assumption
    ·simp at he
   have ea:a.isNone=r:=by
    unfold nilA at hn
    split at hn <;> simp only [Option.some.injEq,reduceCtorEq] at hn <;> subst hn
    ·rcases h4 with h4|⟨b,o,sz,rfl,-⟩
     ·simp at h4
     ·rfl
    ·obtain ⟨rfl,-⟩:=(h3:a=none/\cap=len); rfl
    ·have:a=none:=h3; subst this; rfl
    ·have:a.isSome=true:=h3
     cases a <;> simp at this ⊢
   subst ea
   cases b <;> simp only [Option.some.injEq,reduceCtorEq] at h
   case eql=>subst h; refine .mk ?_; rw [Sem.run_bind,Bh (by simp)]; exact Lib.run_eql_slice_nil _ _ _ _ _ _ _ _ ht
   case neq=>subst h; refine .mk ?_; rw [Sem.run_bind,Bh (by simp)]; exact J9 _ _ _ _ _ _ _ _ ht
  ·simp at h
 ·simp at h
theorem Yj {C:Cx} {u:UnOp} {x av:AV} {vx:Value} (hx:VR C x vx) (h:aUn u x=some av):Has P C (Op.unary u vx) av:=by
 unfold aUn at h
 split at h
 ·simp only [VR] at hx; subst hx; simp only [Option.some.injEq] at h; subst h; exact .mk (by simp [Op.unary,Op.intArith])
 ·simp only [VR] at hx; subst hx; simp only [Option.some.injEq] at h; subst h; exact .mk (by simp [Op.unary])
 ·simp at h
theorem Ln {C:Cx} {s d:TypeId} {x av:AV} {vx:Value} (hx:VR C x vx) (h:Q1 P s d x=some av):Has P C (convert s d vx) av:=by
 unfold Q1 at h
 split at h
 ·split at h
  ·rename_i k k' h1 h2
   simp only [VR] at hx; subst hx; simp only [Option.some.injEq] at h; subst h
   refine .mk ?_
   simp [convert,An (Km h1),An (Km h2),Conv.intToInt]
  ·simp at h
 ·split at h
  ·rename_i hs
   simp only [Bool.and_eq_true] at hs
   simp only [VR] at hx; subst hx; simp only [Option.some.injEq] at h; subst h
   refine .mk ?_
   simp [convert,An (Eh hs.1),An (Eh hs.2)]
  ·simp at h
 ·simp at h
theorem A2 (b o n:Nat):Addr.add ⟨b,o,none⟩ n=⟨b,o+n,none⟩:=by
 unfold Addr.add; split
 ·rename_i h; rw [h]; rfl
 ·rfl
theorem U2 {w:World} {A:Nat->Nat->Prop} {b sz:Nat} : ∀ {es:List (List AV)} {o k:Nat} {e:List AV},Ap w A b sz o es->nth es k=some e->e.length=sz/\∃ vs,Lie w A b (o+k*sz) vs/\PRs w A e vs
 | e :: es,o,0,_,h,he=>by
  simp only [nth,Option.some.injEq] at he; subst he
  simp only [Ap] at h
  exact ⟨h.1,by simpa using h.2.1⟩
 | e :: es,o,k+1,_,h,he=>by
  simp only [Ap] at h
  obtain ⟨h1,h2⟩:=U2 h.2.2 he
  refine ⟨h1,?_⟩
  rw [show o+(k+1)*sz=o+sz+k*sz from by rw [Nat.succ_mul]; omega]
  exact h2
 | [],_,_,_,_,he=>by simp [nth] at he
theorem A7 {α:Type} : ∀ {l:List α} {k:Nat} {x:α},nth l k=some x->k<l.length
 | _ :: _,0,_,_=>by simp
 | _ :: l,k+1,_,h=>by have:=A7 (l:=l) h; simp; omega
 | [],_,_,h=>by simp [nth] at h
theorem Bx {C:Cx} {x:AV} {v:Value} {k:Nat} (h:intN x=some k) (hx:VR C x v):∃ ki,v=.int ki (k:Int):=by
 unfold intN at h
 split at h
 ·split at h
  ·rename_i h0; simp only [Option.some.injEq] at h; subst h
   simp only [VR] at hx; subst hx
   exact ⟨_,by rw [Int.toNat_of_nonneg h0]⟩
  ·simp at h
 ·simp at h
theorem K6 {w:World} {A:Nat->Nat->Prop} {b:Nat} : ∀ {vs:List Value} {o:Nat} (n:Nat),Lie w A b o vs->Lie w A b (o+n) (vs.drop n)
 | [],_,n,_=>by simp [Lie]
 | vs,_,0,h=>h
 | _ :: vs,o,n+1,h=>by
  have:=K6 (vs:=vs) n h.2.2
  rw [show o+(n+1)=o+1+n from by omega]; exact this
theorem Pi {w:World} {A:Nat->Nat->Prop} : ∀ {cs vs} (n:Nat),PRs w A cs vs->PRs w A (cs.drop n) (vs.drop n)
 | [],[],n,_=>by simp only [List.drop_nil,PRs]
 | cs,vs,0,h=>h
 | _ :: cs,_ :: vs,n+1,h=>by simp only [PRs] at h; exact Pi n h.2
 | [],_ :: _,_+1,h=>by simp only [PRs] at h
 | _ :: _,[],_+1,h=>by simp only [PRs] at h
theorem Q3 {t:TypeId} {n sz:Nat} (h:Yq P t=some (n,sz)):∃ e,P.underlying t=some (.array n e)/\szOf P e=some sz:=by
 unfold Yq at h
 split at h
 ·rename_i n' e hu
  simp only [Option.map_eq_some_iff,Prod.mk.injEq] at h
  obtain ⟨s,h1,rfl,rfl⟩:=h
  exact ⟨e,hu,h1⟩
 ·simp at h
theorem Wz {C:Cx} {t:TypeId} {x i av:AV} {vx vi:Value} (hx:VR C x vx) (hi:VR C i vi) (h:idxA P t x i=some av):Has P C (Instr.indexAt t vx vi) av:=by
 unfold idxA at h
 split at h
 ·rename_i id ep off k hk
  obtain ⟨ki,rfl⟩:=Bx hk hi
  split at h
  ·rename_i n sz ha
   split at h
   ·rename_i hlt
    simp only [Option.some.injEq] at h; subst h
    obtain ⟨e,he,hs⟩:=Q3 ha
    simp only [VR] at hx
    obtain ⟨b,rfl,h3,h4⟩:=hx
    refine ⟨.pointer (some ⟨b,off+k*sz,none⟩),?_,?_⟩
    ·simp only [Instr.indexAt,asIntOf,Sem.run_bind,Sem.run_pure,Result.andThen_ok,An he]
     have:(0:Int)<=(k:Int)/\(k:Int)<(n:Int):=by omega
     simp [Instr.sureAddr,this,B5 hs,A2]
    ·simp only [VR]
     exact ⟨b,rfl,h3,h4⟩
   ·simp at h
  ·simp at h
 ·rename_i cs k hk
  obtain ⟨ki,rfl⟩:=Bx hk hi
  split at h
  ·rename_i n sz ha
   split at h
   ·rename_i hlt
    simp only [Option.some.injEq] at h; subst h
    obtain ⟨e,he,hs⟩:=Q3 ha
    simp only [VR] at hx
    obtain ⟨b,o,vs,rfl,hl,hp⟩:=hx
    refine ⟨.pointer (some ⟨b,o+k*sz,none⟩),?_,?_⟩
    ·simp only [Instr.indexAt,asIntOf,Sem.run_bind,Sem.run_pure,Result.andThen_ok,An he]
     have:(0:Int)<=(k:Int)/\(k:Int)<(n:Int):=by omega
     simp [Instr.sureAddr,this,B5 hs,A2]
    ·simp only [VR]
     exact ⟨b,_,_,rfl,K6 _ hl,Pi _ hp⟩
   ·simp at h
  ·simp at h
 ·rename_i es c k hk
  obtain ⟨ki,rfl⟩:=Bx hk hi
  split at h
  ·rename_i cs sz hn hs
   split at h
   ·rename_i hlen
    simp only [Option.some.injEq] at h; subst h
    simp only [VR] at hx
    obtain ⟨a,len,cap,rfl,h1,h2,-,h3⟩:=hx
    have hlt:=A7 hn
    rcases h3 with h3|⟨b,o,sz',rfl,hr⟩
    ·subst h3; simp at hlt
    ·obtain ⟨h4,vs,hl,hp⟩:=U2 hr hn
     simp only [Option.bind_eq_some_iff] at hs
     obtain ⟨e,he,hs⟩:=hs
     refine ⟨.pointer (some ⟨b,o+k*sz,none⟩),?_,?_⟩
     ·simp only [Instr.indexAt,asIntOf,Sem.run_bind,Sem.run_pure,Result.andThen_ok,An (Be he)]
      have:(0:Int)<=(k:Int)/\(k:Int)<(len:Int):=by omega
      simp [this,B5 hs,A2]
     ·simp only [VR]
      exact ⟨b,_,vs,rfl,by rw [<- hlen,h4]; exact hl,hp⟩
   ·simp at h
  ·simp at h
 ·rename_i id ep off len sz k hk
  obtain ⟨ki,rfl⟩:=Bx hk hi
  split at h
  ·rename_i hh
   obtain ⟨hlt,hs⟩:=hh
   simp only [Option.some.injEq] at h; subst h
   simp only [Option.bind_eq_some_iff] at hs
   obtain ⟨e,he,hs⟩:=hs
   simp only [VR] at hx
   obtain ⟨b,a,cap,rfl,h1,h2,h3,h4⟩:=hx
   rcases h2 with h2|rfl
   ·omega
   ·refine ⟨.pointer (some ⟨b,off+k*sz,none⟩),?_,?_⟩
    ·simp only [Instr.indexAt,asIntOf,Sem.run_bind,Sem.run_pure,Result.andThen_ok,An (Be he)]
     have:(0:Int)<=(k:Int)/\(k:Int)<(len:Int):=by omega
     simp [this,B5 hs,A2]
    ·simp only [VR]
     exact ⟨b,rfl,h3,fun e he de=>(h4 e he de).1⟩
  ·simp at h
 ·simp at h
theorem Je {t:TypeId} {k off sz:Nat} {b:Bool} (h:Aw P t k=some (off,sz,b)):∃ fs f,P.underlying t=some (.struct fs)/\fs[k]?=some f/\f.offset=off/\szOf P f.type=some sz/\aggT P f.type=some b/\sz≠0:=by
 unfold Aw at h
 split at h
 ·rename_i fs hu
  split at h
  ·rename_i f hf
   split at h
   ·rename_i s b' hs ha
    simp only [Option.some.injEq,Prod.mk.injEq] at h
    obtain ⟨rfl,rfl,rfl⟩:=h
    exact ⟨fs,f,hu,hf,rfl,hs,ha,by omega⟩
   ·simp at h
  ·simp at h
 ·simp at h
theorem Ww {C:Cx} {t:TypeId} {x av:AV} {k:Nat} {vx:Value} (hx:VR C x vx) (h:fldA P t x k=some av):Has P C (Instr.fieldAt t vx k) av:=by
 unfold fldA at h
 split at h
 ·rename_i off sz b cs hf
  obtain ⟨fs,f,hu,ke,h1,h2,h3,h4⟩:=Je hf
  simp only [Option.some.injEq] at h; subst h
  simp only [VR] at hx
  obtain ⟨b,o,vs,rfl,hl,hp⟩:=hx
  refine ⟨.pointer (some ⟨b,o+off,none⟩),?_,?_⟩
  ·simp [Instr.fieldAt,An hu,ke,Instr.sureAddr,fieldPlace,B5 h2,h4,A2,h1]
  ·simp only [VR]
   exact ⟨b,_,_,rfl,K6 off hl,Pi off hp⟩
 ·rename_i off sz b id ep o hf
  obtain ⟨fs,f,hu,ke,h1,h2,h3,h4⟩:=Je hf
  simp only [Option.some.injEq] at h; subst h
  simp only [VR] at hx
  obtain ⟨b,rfl,hn,hx⟩:=hx
  refine ⟨.pointer (some ⟨b,o+off,none⟩),?_,?_⟩
  ·simp [Instr.fieldAt,An hu,ke,Instr.sureAddr,fieldPlace,B5 h2,h4,A2,h1]
  ·simp only [VR]
   exact ⟨b,rfl,hn,hx⟩
 ·simp at h
theorem Aaz {n:Nat} {cs ds:List AV} (h:takeN n cs=some ds):ds=cs.take n/\n<=cs.length:=by
 induction n generalizing cs ds with
 | zero=>simp only [takeN,Option.some.injEq] at h; subst h; simp
 | succ n ih =>
  cases cs with
  | nil=>simp [takeN] at h
  | cons c cs =>
   simp only [takeN,Option.map_eq_some_iff] at h
   obtain ⟨ds',h1,rfl⟩:=h
   obtain ⟨h2,h3⟩:=ih h1
   exact ⟨by simp [h2],by simpa using h3⟩
theorem Xh {C:Cx} {t:TypeId} {off sz:Nat} {b:Bool} {cs:List AV} {vs:Array Value} {av:AV} (hs:szOf P t=some sz) (ha:aggT P t=some b) (hx:VRs C cs vs.toList) (h:partA b sz (cs.drop off)=some av):Has P C (part t vs off) av:=by
 unfold partA at h
 have hd:=Hm off hx
 cases b with
 | true =>
  simp only [if_true,Option.map_eq_some_iff] at h
  obtain ⟨ds,h1,rfl⟩:=h
  obtain ⟨h2,h3⟩:=Gg hd h1
  refine ⟨.agg (vs.extract off (off+sz)),?_,?_⟩
  ·simp [part,Jm ha,B5 hs]
  ·simp only [VR]
   refine ⟨_,rfl,?_⟩
   have:(vs.extract off (off+sz)).toList=(vs.toList.drop off).take sz:=by simp
   rw [this]; exact h2
 | false =>
  simp only [Bool.false_eq_true,if_false] at h
  obtain ⟨v,h1,h2⟩:=Nl hd h
  refine ⟨v,?_,h2⟩
  have:vs[off]?=some v:=by simpa using h1
  simp [part,Jm ha,this]
def OptR (C:Cx) (o:Option AV) (vo:Option Value):Prop:=match o,vo with|none,none=>True|some x,some v=>VR C x v|_,_=>False
theorem Gh {C:Cx} {len lim d k:Nat} {o:Option AV} {vo:Option Value} (gp:len<=lim) (hd:d<=len) (h:bound len o d=some k) (ho:OptR C o vo) :
  k<=len/\(match vo with|some v=>∀ code,(Instr.sliceBound v lim code).run P C.w=.ok k C.w|none=>k=d):=by
 unfold bound at h
 cases o with
 | none =>
  cases vo with
  | none=>simp only [Option.some.injEq] at h; subst h; exact ⟨hd,rfl⟩
  | some v=>exact ho.elim
 | some x =>
  cases vo with
  | none=>exact ho.elim
  | some v =>
   simp only [OptR] at h ho
   split at h
   ·rename_i k' hk
    split at h
    ·rename_i hle
     simp only [Option.some.injEq] at h; subst h
     obtain ⟨ki,rfl⟩:=Bx hk ho
     refine ⟨hle,fun code=>?_⟩
     have:(0:Int)<=(k':Int)/\(k':Int)<=(lim:Int):=by omega
     simp [Instr.sliceBound,asIntOf,this]
    ·simp at h
   ·simp at h
theorem Ph {C:Cx} {f:Operand->AV} {g:Operand->Value} (h:∀ x,VR C (f x) (g x)) (o:Option Operand):OptR C (o.map f) (o.map g):=by cases o <;> simp [OptR,h]
theorem G8 {C:Cx} {isS:Bool} {len cap h l:Nat} {lo hi mx:Option AV} {vl vh vm:Option Value} (hc:len<=cap) (hl:OptR C lo vl) (hh:OptR C hi vh) (hm:OptR C mx vm)
  (h1:bound len hi len=some h) (h2:bound h lo 0=some l) (h3:∀ m,mx=some m->hi.isSome=true/\intN m=some h) :
  l<=h/\h<=len/\∃ m,(Instr.sliceBounds isS len cap vl vh vm).run P C.w=.ok (l,h,m) C.w/\h<=m/\m<=cap/\(mx.isSome=true->m=h)/\(mx=none->m=cap):=by
 cases og:mx with
 | none =>
  subst og
  cases vm with
  | some _=>exact hm.elim
  | none =>
   obtain ⟨a1,a2⟩:=Gh (P:=P) hc (Nat.le_refl _) h1 hh
   obtain ⟨b1,b2⟩:=Gh (P:=P) (Nat.le_refl h) (Nat.zero_le _) h2 hl
   refine ⟨b1,a1,cap,?_,by omega,Nat.le_refl _,by simp,fun _=>rfl⟩
   cases vh with
   | none =>
    simp only at a2; subst a2
    cases vl with
    | none=>simp only at b2; subst b2; simp [Instr.sliceBounds]
    | some v=>simp only at b2; simp [Instr.sliceBounds,b2]
   | some u =>
    simp only at a2
    cases vl with
    | none=>simp only at b2; subst b2; simp [Instr.sliceBounds,a2]
    | some v=>simp only at b2; simp [Instr.sliceBounds,a2,b2]
 | some m =>
  subst og
  cases vm with
  | none=>exact hm.elim
  | some um =>
   obtain ⟨hs,aj⟩:=h3 m rfl
   obtain ⟨ki,rfl⟩:=Bx aj hm
   cases hi with
   | none=>simp at hs
   | some x =>
    cases vh with
    | none=>exact hh.elim
    | some u =>
     obtain ⟨a1,-⟩:=Gh (P:=P) (C:=C) (vo:=some u) hc (Nat.le_refl _) h1 hh
     obtain ⟨b1,b2⟩:=Gh (P:=P) (Nat.le_refl h) (Nat.zero_le _) h2 hl
     have hu:∀ code,(Instr.sliceBound u h code).run P C.w=.ok h C.w:=by
      intro code
      unfold bound at h1
      simp only at h1
      split at h1
      ·rename_i k' hk
       split at h1
       ·simp only [Option.some.injEq] at h1; subst h1
        obtain ⟨kj,rfl⟩:=Bx hk hh
        simp [Instr.sliceBound,asIntOf]
       ·simp at h1
      ·simp at h1
     have hv:∀ code,(Instr.sliceBound (.int ki (h:Int)) cap code).run P C.w=.ok h C.w:=by
      intro code
      have:(0:Int)<=(h:Int)/\(h:Int)<=(cap:Int):=by omega
      simp [Instr.sliceBound,asIntOf,this]
     refine ⟨b1,a1,h,?_,Nat.le_refl _,by omega,fun _=>rfl,by simp⟩
     cases vl with
     | none=>simp only at b2; subst b2; simp [Instr.sliceBounds,hu,hv]
     | some v=>simp only at b2; simp [Instr.sliceBounds,b2,hu,hv]
theorem Kf {w:World} {A:Nat->Nat->Prop} {b sz:Nat} : ∀ {es:List (List AV)} {o:Nat} (n:Nat),Ap w A b sz o es->Ap w A b sz o (es.take n)
 | [],_,n,_=>by simp [Ap]
 | _ :: _,_,0,_=>by simp [Ap]
 | e :: es,o,n+1,h=>by simp only [Ap,List.take_succ_cons] at h ⊢; exact ⟨h.1,h.2.1,Kf n h.2.2⟩
theorem Nh {w:World} {A:Nat->Nat->Prop} {b sz:Nat} : ∀ {es:List (List AV)} {o:Nat} (n:Nat),Ap w A b sz o es->Ap w A b sz (o+n*sz) (es.drop n)
 | [],_,n,_=>by simp [Ap]
 | es,o,0,h=>by simpa using h
 | e :: es,o,n+1,h=>by
  simp only [Ap] at h
  have:=Nh (o:=o+sz) n h.2.2
  rw [show o+(n+1)*sz=o+sz+n*sz from by rw [Nat.succ_mul]; omega]; exact this
theorem Jo {w:World} {A:Nat->Nat->Prop} {b sz sz':Nat} {es:List (List AV)} {o:Nat} (h:Ap w A b sz o es) (hr:B7 sz' es=true) (hne:es≠[]):sz=sz':=by
 cases es with
 | nil=>exact absurd rfl hne
 | cons e es =>
  simp only [Ap] at h
  simp only [B7,List.all_cons,Bool.and_eq_true,beq_iff_eq] at hr
  omega
theorem Tf {C:Cx} {t:TypeId} {x av:AV} {vx:Value} {lo hi mx:Option AV} {vl vh vm:Option Value} (hx:VR C x vx) (hl:OptR C lo vl) (hh:OptR C hi vh) (hm:OptR C mx vm)
  (h:Du P t x lo hi mx=some av):Has P C (Instr.sliceAt t vx vl vh vm) av:=by
 unfold Du at h
 split at h
 ·rename_i s
  simp only [VR] at hx; subst hx
  split at h
  ·rename_i ht
   split at h
   ·rename_i h' hb
    split at h
    ·rename_i l hb2
     simp only [Option.some.injEq] at h; subst h
     obtain ⟨h1,h2,m,h3,-⟩:=G8 (P:=P) (isS:=false) (Nat.le_refl _) hl hh hm hb hb2 (by simp)
     have e:=Eh ht
     refine .mk ?_
     cases vm with
     | some _=>exact hm.elim
     | none=>simp [Instr.sliceAt,An e,Instr.slice,h3]
    ·simp at h
   ·simp at h
  ·simp at h
 ·rename_i es c
  simp only [VR] at hx
  obtain ⟨a,len,cap,rfl,e1,e2,e3,e4⟩:=hx
  split at h
  ·rename_i sz hsz
   simp only [Option.bind_eq_some_iff] at hsz
   obtain ⟨el,he,hs⟩:=hsz
   split at h
   ·rename_i hro
    split at h
    ·rename_i h' hb
     have key:∀ l,bound h' lo 0=some l->(∀ m,mx=some m->hi.isSome=true/\intN m=some h')->∃ a' cap',(Instr.sliceAt t (.slice a len cap) vl vh vm).run P C.w=.ok (.slice a' (h' - l) cap') C.w/\h' - l<=cap'/\(mx.isSome=true->cap'=h' - l) /\
       (((es.take h').drop l).length=h' - l)/\(((es.take h').drop l)=[]\/∃ b o sz,a'=some ⟨b,o,none⟩/\Ap C.w C.Avoid b sz o ((es.take h').drop l)):=by
      intro l hb2 h3
      obtain ⟨g1,g2,m,g3,g4,g5,g6,g7⟩:=G8 (P:=P) (cap:=cap) (isS:=true) (by omega) hl hh hm hb hb2 h3
      refine ⟨if m=l then a else a.map (·.add (l*sz)),m - l,?_,by omega,fun hs=>by rw [g6 hs],?_,?_⟩
      ·rw [e1] at g3
       simp [Instr.sliceAt,An (Be he),Instr.slice,g3,B5 hs]
      ·rw [List.length_drop,List.length_take]; omega
      ·by_cases pp:l<h'
       ·rcases e4 with e4|⟨b,o,sz',rfl,hr⟩
        ·subst e4; simp
        ·right
         have hne:es≠[]:=by intro e; subst e; simp at g2; omega
         have:sz'=sz:=Jo hr hro hne
         subst this
         refine ⟨b,o+l*sz',sz',?_,Nh l (Kf h' hr)⟩
         rw [if_neg (by omega)]; simp [A2]
       ·left
        apply List.eq_nil_of_length_eq_zero
        rw [List.length_drop,List.length_take]; omega
     split at h
     ·rename_i l hb2
      simp only [Option.some.injEq] at h; subst h
      obtain ⟨a',cap',k1,k2,k3,k4,k5⟩:=key l hb2 (by simp)
      exact ⟨_,k1,by simp only [VR]; exact ⟨a',_,cap',rfl,k4,k2,trivial,k5⟩⟩
     ·rename_i l m hb2
      split at h
      ·rename_i hc
       simp only [Option.some.injEq] at h; subst h
       obtain ⟨a',cap',k1,k2,k3,k4,k5⟩:=key l hb2 (by intro m' em; simp only [Option.some.injEq] at em; subst em; exact hc)
       exact ⟨_,k1,by simp only [VR]; exact ⟨a',_,cap',rfl,k4,k2,k3 rfl,k5⟩⟩
      ·simp at h
     ·simp at h
    ·simp at h
   ·simp at h
  ·simp at h
 ·rename_i id ep off len sz
  simp only [VR] at hx
  obtain ⟨b,a,cap,rfl,e1,e2,e3,e4⟩:=hx
  split at h
  ·rename_i hsz
   simp only [Option.bind_eq_some_iff] at hsz
   obtain ⟨el,he,hs⟩:=hsz
   split at h
   ·rename_i h' hb
    have key:∀ l,bound h' lo 0=some l->(∀ m,mx=some m->hi.isSome=true/\intN m=some h')->Has P C (Instr.sliceAt t (.slice a len cap) vl vh vm) (.sref id ep (off+l*sz) (h' - l) sz):=by
     intro l hb2 h3
     obtain ⟨g1,g2,m,g3,g4,g5,g6,g7⟩:=G8 (P:=P) (cap:=cap) (isS:=true) (by omega) hl hh hm hb hb2 h3
     refine ⟨.slice (if m=l then a else a.map (·.add (l*sz))) (h' - l) (m - l),?_,?_⟩
     ·simp [Instr.sliceAt,An (Be he),Instr.slice,g3,B5 hs]
     ·simp only [VR]
      refine ⟨b,_,_,rfl,by omega,?_,e3,fun e he de=>?_⟩
      rotate_left
      ·obtain ⟨q1,cs,t',q2,q3⟩:=e4 e he de
       refine ⟨q1,cs,t',q2,?_⟩
       have:l*sz+(m - l)*sz<=cap*sz:=by rw [<- Nat.add_mul]; exact Nat.mul_le_mul_right _ (by omega)
       omega
      by_cases pp:l<h'
      ·right
       rw [if_neg (by omega)]
       rcases e2 with e2|rfl
       ·omega
       ·simp [A2]
      ·left; omega
    split at h
    ·rename_i l hb2
     simp only [Option.some.injEq] at h; subst h
     exact key l hb2 (by simp)
    ·rename_i l m hb2
     split at h
     ·rename_i hc
      simp only [Option.some.injEq] at h; subst h
      exact key l hb2 (by intro m' em; simp only [Option.some.injEq] at em; subst em; exact hc)
     ·simp at h
    ·simp at h
   ·simp at h
  ·simp at h
 ·simp at h
/- values laid into cells -/
def puts:List AV->Nat->List AV->List AV
 | cs,_,[]=>cs
 | cs,o,v :: vs=>puts (put cs o v) (o+1) vs
def sets:List Value->Nat->List Value->List Value
 | l,_,[]=>l
 | l,o,v :: vs=>sets (l.set o v) (o+1) vs
theorem Hi (c:AV):∀ (vs cs:List AV) (o:Nat),puts (c :: cs) (o+1) vs=c :: puts cs o vs
 | [],_,_=>rfl
 | v :: vs,cs,o=>by simp only [puts,put]; exact Hi c vs (put cs o v) (o+1)
theorem E6:∀ {cs:List AV} {o:Nat} {vs cs':List AV},over cs o vs=some cs'->cs'=puts cs o vs/\o+vs.length<=cs.length
 | cs,0,[],cs',h=>by simp only [over,Option.some.injEq] at h; subst h; simp [puts]
 | c :: cs,k+1,vs,cs',h=>by
  simp only [over,Option.map_eq_some_iff] at h
  obtain ⟨l,h1,rfl⟩:=h
  obtain ⟨h2,h3⟩:=E6 h1
  exact ⟨by rw [Hi,h2],by simp; omega⟩
 | _ :: cs,0,v :: vs,cs',h=>by
  simp only [over,Option.map_eq_some_iff] at h
  obtain ⟨l,h1,rfl⟩:=h
  obtain ⟨h2,h3⟩:=E6 h1
  exact ⟨by simp only [puts,put]; rw [Hi,h2],by simp at h3 ⊢; omega⟩
 | [],0,_ :: _,_,h=>by simp [over] at h
 | [],_+1,_,_,h=>by simp [over] at h
theorem Hn {C:Cx} : ∀ {us vs:List _} {cs:List AV} {l:List Value} {o:Nat},VRs C cs l->VRs C vs us->VRs C (puts cs o vs) (sets l o us)
 | [],[],_,_,_,h,_=>h
 | u :: us,v :: vs,cs,l,o,h,hv=>by
  simp only [VRs] at hv
  simp only [puts,sets]
  exact Hn (Tu o h hv.1) hv.2
 | [],_ :: _,_,_,_,_,h=>by simp only [VRs] at h
 | _ :: _,[],_,_,_,_,h=>by simp only [VRs] at h
theorem Lg (off:Nat):∀ (us:List Value) (k:Nat) (cells:Array Value),((us.zipIdx k).foldl (fun (cs:Array Value) (x:Value × Nat)=>cs.setIfInBounds (off+x.2) x.1) cells).toList=sets cells.toList (off+k) us
 | [],_,_=>rfl
 | u :: us,k,cells=>by
  simp only [List.zipIdx_cons,List.foldl_cons,sets]
  rw [Lg off us (k+1)]
  simp [Nat.add_assoc]
theorem Dl {C:Cx} {x:AV} {v:Value} {cs:List AV} (h:cellsOf x=some cs) (hx:VR C x v):VRs C cs v.cells.toList:=by
 unfold cellsOf at h
 split at h
 ·simp only [Option.some.injEq] at h; subst h
  simp only [VR] at hx
  obtain ⟨vs,rfl,h⟩:=hx
  exact h
 ·simp at h
 ·simp at h
 ·simp at h
 ·simp at h
 ·rename_i n1 n2 n3 n4 n5
  simp only [Option.some.injEq] at h; subst h
  have:v.cells=#[v]:=by
   cases v with
   | agg cs =>
    exfalso
    cases x with
    | prim v=>simp only [VR] at hx; subst hx; exact n4 _ rfl
    | agg _=>exact n1 _ rfl
    | bot=>exact n3 rfl
    | tup _=>exact n2 _ rfl
    | frz _ _=>simp only [VR] at hx; obtain ⟨_,_,_,e,-⟩:=hx; cases e
    | fptr _=>simp only [VR] at hx; obtain ⟨_,_,_,e,-⟩:=hx; cases e
    | ref _ _ _=>simp only [VR] at hx; obtain ⟨_,e,-⟩:=hx; cases e
    | sref _ _ _ _ _=>simp only [VR] at hx; obtain ⟨_,_,_,e,-⟩:=hx; cases e
    | fn _ _=>simp only [VR] at hx; obtain ⟨_,e,-⟩:=hx; cases e
    | bfn _ _=>simp only [VR] at hx; obtain ⟨_,e,-⟩:=hx; cases e
    | ifc _ _=>simp only [VR] at hx; obtain ⟨_,e,-⟩:=hx; cases e
    | mfn _ _ _=>simp only [VR] at hx; obtain ⟨_,e,-⟩:=hx; cases e
    | lit _ _=>simp only [VR] at hx; obtain ⟨_,_,e,-⟩:=hx; cases e
   | _=>rfl
  rw [this]
  simp only [VRs]
  exact ⟨hx,trivial⟩
theorem Ab {α:Type} : ∀ {l:List α} {k:Nat},nth l k=l[k]?
 | [],k=>by simp [nth]
 | _ :: _,0=>rfl
 | _ :: l,k+1=>by simp only [nth]; rw [Ab (l:=l)]; simp
theorem Nr {C:Cx} {pl:List (Nat × Nat)} {place:Nat->Option (Nat × Nat)} (hp:∀ i,place i=nth pl i):∀ {ps:List (Nat × AV)} {us:List (Nat × Value)} {cs ds:List AV} {cells:Array Value},fillA pl cs ps=some ds->VRs C cs cells.toList ->
  ps.length=us.length->(∀ (k i:Nat) (x:AV) (j:Nat) (u:Value),ps[k]?=some (i,x)->us[k]?=some (j,u)->i=j/\VR C x u)->∃ out,Instr.fill place cells us=some out/\VRs C ds out.toList/\out.size=cells.size
 | [],[],cs,ds,cells,h,hc,_,_=>by simp only [fillA,Option.some.injEq] at h; subst h; exact ⟨cells,rfl,hc,rfl⟩
 | (i,x) :: ps,(j,u) :: us,cs,ds,cells,h,hc,hlen,hall=>by
  simp only [fillA] at h
  split at h
  ·rename_i off sz vs hn cw
   split at h
   ·rename_i hl
    split at h
    ·rename_i cs' ho
     obtain ⟨rfl,mb⟩:=hall 0 i x j u rfl rfl
     have hv:=Dl cw mb
     obtain ⟨h1,h2⟩:=E6 ho
     have e1:u.cells.size=sz:=by have:=Ah hv; simp at this; omega
     have e2:off+u.cells.size<=cells.size:=by have:=Ah hc; simp at this; omega
     have az:VRs C cs' (u.cells.zipIdx.foldl (fun cs (x:Value × Nat)=>cs.setIfInBounds (off+x.2) x.1) cells).toList:=by
      rw [<- Array.foldl_toList,Array.toList_zipIdx,Lg off u.cells.toList 0 cells,h1]
      exact Hn hc hv
     obtain ⟨out,k1,k2,k3⟩:=Nr hp h az (by simpa using hlen) (fun k i' x' j' u' a b=>hall (k+1) i' x' j' u' (by simpa using a) (by simpa using b))
     refine ⟨out,?_,k2,?_⟩
     ·have oh:¬ (u.cells.size≠sz\/off+u.cells.size > cells.size):=by rintro (h|h) <;> omega
      have:Instr.fill place cells ((i,u) :: us)=Instr.fill place (u.cells.zipIdx.foldl (fun cs (x:Value × Nat)=>cs.setIfInBounds (off+x.2) x.1) cells) us:=by
       simp [Instr.fill,hp,hn,e1]
       omega
      rw [this]; exact k1
     ·rw [k3]
      have:=Ah az
      have:=Ah hc
      have:cs'.length=cs.length:=by
       rw [h1]; clear h1 ho hl cw h2 hv az hall hlen h
       have:∀ (vs cs:List AV) (o:Nat),(puts cs o vs).length=cs.length:=by
        intro vs
        induction vs with
        | nil=>intro _ _; rfl
        | cons v vs ih =>
         intro cs o
         simp only [puts]
         rw [ih]
         have:∀ (cs:List AV) (o:Nat) (v:AV),(put cs o v).length=cs.length:=by
          intro cs
          induction cs with
          | nil=>intro _ _; rfl
          | cons c cs ih=>intro o v; cases o <;> simp [put,ih]
         rw [this]
       exact this vs cs off
      simp at *
      omega
    ·simp at h
   ·simp at h
  ·simp at h
 | [],_ :: _,_,_,_,_,_,hl,_=>by simp at hl
 | _ :: _,[],_,_,_,_,_,hl,_=>by simp at hl
end
end
end Go.Proofs.YthelkgdmgihhiaaGreatDoor
