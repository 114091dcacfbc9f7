/- Part 3. -/
import Derived.Test.YtcandeobhlfkbaaGreatZF2
import Derived.Laws.StructEq
import Derived.Lib.SliceRun
open Array renaming toList_zipIdx->iJ,foldl_toList->iP
open Bool renaming and_eq_true->Ch,false_eq_true->C8
open Go renaming sizeOf->jC
open Go.Addr renaming add->iB
open Go.Instr renaming sliceBounds->Ox,fill->O4,sureAddr->O5,sliceBound->Sj,sliceAt->fV
open Go.IntKind renaming i64->Cf
open Go.Result renaming andThen_ok->Ev
open Go.Sem renaming run_bind->Fj,run_pure->It
open List renaming eq_nil_of_length_eq_zero->Fm,take_succ_cons->F1,length_take->Ix,foldl_cons->Sa,all_cons->fU,length_drop->gQ
open Nat renaming le_refl->Cc,zero_le->Co,mul_le_mul_right->Ic,succ_mul->Od,add_mul->Sg,add_assoc->gY
open Option renaming map_eq_some_iff->Ca,bind_eq_some_iff->Ig
open Option.some renaming injEq->A2
open Prod.mk renaming injEq->Cg
namespace Go.Proofs.YtcandeobhlfkbaaGreat
section
section
variable {P:Program}
theorem N7 (w:World) (t e:TypeId) (a:Option Addr) (n c n' c':Nat) (h:P.underlying t=some (.slice e)) :
  (binOp .neq t (.slice a n c) (.slice none n' c')).run P w=.ok (.bool (!a.isNone)) w:=by
 simp only [binOp];simp [Op.equal,Op.maxDepth,Lib.run_equalIn_slice_nil w 9999 t e a n c n' c' h]
theorem Bk {w:World} {t:TypeId} {d:TypeDesc} (h:P.underlying t=some d):(underlying t).run P w=.ok d w:=by simp [underlying,h]
theorem Er {w:World} {t:TypeId} {s:Nat} (h:szOf P t=some s):(jC t).run P w=.ok s w:=by
 simp only [szOf,Ca] at h;obtain ⟨i,h1,h2⟩:=h;simp [jC,typeInfo,h1,h2]
theorem Mz {w:World} {t:TypeId} {b:Bool} (h:aggT P t=some b):(isAgg t).run P w=.ok b w:=by
 simp only [aggT,Ca] at h;obtain ⟨d,h1,h2⟩:=h;subst h2;unfold isAgg;simp only [Fj,Bk h1,Ev];cases d <;> rfl
theorem Dy {t e:TypeId} (h:A7 P t=some e):P.underlying t=some (.slice e):=by
 unfold A7 at h;exact Ya2n
theorem Hu {t:TypeId} (h:Bw P t=true):P.underlying t=some .string:=by
 unfold Bw at h;split at h
 ·assumption
 ·cases h
theorem Ph {t:TypeId} {k} (h:Jm P t=some k):P.underlying t=some (.int k):=by
 unfold Jm at h;exact Ya2n
def Has (P:Program) (C:Cx) (s:Sem Value) (av:AV):Prop:=∃ v,s.run P C.w=.ok v C.w/\VR C av v
theorem Has.mk {C:Cx} {s:Sem Value} {v:Value} (h:s.run P C.w=.ok v C.w):Has P C s (.prim v):=⟨v,h,bM⟩
theorem Y0 {C:Cx} {b:BinOp} {k:IntKind} {x y:Int} {av:AV} {t:TypeId} (h:binInt b k x y=some av):Has P C (binOp b t (.int k x) (.int k y)) av:=by
 cases b <;> simp only [binInt] at h;case quo =>
  split at h
  ·simp at h
  ·rename_i h0; simp only [A2] at h; subst h; exact .mk (by simp [binOp,Op.intDiv,h0])
 case rem =>
  split at h
  ·simp at h
  ·rename_i h0; simp only [A2] at h; subst h; exact .mk (by simp [binOp,Op.intDiv,h0])
 case shr =>
  split at h
  ·rename_i h0; simp only [A2] at h; subst h
   obtain ⟨h1,h2,h3⟩:=h0
   have e:min y.toNat k.bits=y.toNat:=aA
   exact .mk (by simp [binOp,Op.shift,e]; omega)
  ·simp at h
 all_goals first
  | (simp only [A2] at h; subst h; refine .mk ?_; simp [binOp,Op.intArith,Op.intCmp]; done)
  | (simp at h; done)
theorem Y1 {C:Cx} {b:BinOp} {x y:ByteArray} {av:AV} {t:TypeId} (h:binStr b x y=some av):Has P C (binOp b t (.string x) (.string y)) av:=by
 cases b <;> simp only [binStr] at h;case add =>
  split at h
  ·rename_i h0; simp only [A2] at h; subst h
   refine .mk ?_
   have:¬ ((x.size+y.size:Nat):Int) > Cf.max:=by simp [IntKind.max,IntKind.bits,IntKind.signed]; omega
   simp only [binOp,Op.stringOp,if_neg this]; rfl
  ·simp at h
 all_goals first
  | (simp only [A2] at h; subst h; refine .mk ?_; simp [binOp,Op.stringOp,sEq,sLt]; done)
  | (simp at h; done)
theorem D1 {w:World} {b:BinOp} {t:TypeId} {ox oy:Operand} {x y:Value} (h:(∀ cs,x≠.agg cs)/\x≠.nilIface):(eqGuard b t ox oy x y).run P w=.ok () w:=by
 unfold eqGuard;cases x <;> first|exact absurd rfl h.2|exact absurd rfl (h.1 _)|(cases y <;> cases b <;> rfl)
theorem Y4 {C:Cx} {w:World} {k:Nat} {x y:AV} {vx vy:Value} {c:Bool} (h:Rf k x y=some c) (hx:VR C x vx) (hy:VR C y vy) {t:TypeId} {d:Nat}
  (ht:Z3 P t=some k):(Op.equalIn (d+1) t vx vy).run P w=.ok c w:=by
 unfold Rf at h;split at h
 ·simp only [VR] at hx hy; subst hx hy;simp only [A2] at h; subst h;refine run_equalIn_bool' w d t _ _ ?_;unfold Z3 at ht; split at ht <;> simp at ht; assumption
 ·split at h
  ·rename_i hk; subst hk;simp only [VR] at hx hy; subst hx hy;simp only [A2] at h; subst h;unfold Z3 at ht; split at ht <;> simp at ht;rename_i h'; exact run_equalIn_int w d t _ _ _ _ h'
  ·simp at h
 ·simp only [VR] at hx hy; subst hx hy;simp only [A2] at h; subst h;unfold Z3 at ht; split at ht <;> simp at ht;rename_i h'; exact run_equalIn_string w d t _ _ h'
 ·simp at h
theorem Mb {C:Cx} {w:World} {d:Nat} : ∀ {fs:List Field} {i:Nat} {ks:List Nat} {xs ys:List AV} {vx vy:Array Value} {c:Bool},Ta P i fs=some ks->cellsEq ks xs ys=some c ->
  VRs C xs (vx.toList.drop i)->VRs C ys (vy.toList.drop i)->(Op.eqFields (d+1) vx vy fs).run P w=.ok c w
 | [],i,ks,xs,ys,vx,vy,c,hk,h,hx,hy=>by
  simp only [Ta,A2] at hk;subst hk;cases xs <;> cases ys <;> simp only [cellsEq] at h
  ·simp at h; subst h; rfl
  all_goals simp at h
 | f :: fs,i,ks,xs,ys,vx,vy,c,hk,h,hx,hy=>by
  simp only [Ta] at hk;split at hk
  ·simp at hk
  ·rename_i hn;simp only [not_or,Decidable.not_not] at hn;obtain ⟨h1,h2,h3⟩:=hn;split at hk
   ·rename_i k ks' xr bz;simp only [A2] at hk; subst hk;cases xs with
    | nil=>simp [cellsEq] at h
    | cons x xs=>cases ys with
     | nil=>simp [cellsEq] at h
     | cons y ys =>
      simp only [cellsEq] at h
      split at h
      ·rename_i a b ha hb
       simp only [A2] at h; subst h
       have key:∀ {xs:List AV} {x:AV} {vx:Array Value},VRs C (x :: xs) (vx.toList.drop i)->∃ v,vx[i]?=some v/\VR C x v/\VRs C xs (vx.toList.drop (i+1)):=by
        intro xs x vx hx;cases hd:vx.toList.drop i with
        | nil=>rw [hd] at hx; simp only [VRs] at hx
        | cons v vs =>
         rw [hd] at hx; simp only [VRs] at hx;have e0:vx.toList[i]?=some v:=by
          have:=congrArg (fun l=>l[0]?) hd;exact Ya15
         have e1:vx.toList.drop (i+1)=vs:=by
          have:=congrArg List.tail hd;exact Ya15
         exact ⟨v,by simpa using e0,hx.1,by rw [e1]; exact hx.2⟩
       obtain ⟨u,hu,hu1,hu2⟩:=key hx
       obtain ⟨v,hv,hv1,hv2⟩:=key hy
       have e:=Y4 (P:=P) (w:=w) (d:=d) ha hu1 hv1 xr
       have ih:=Mb (w:=w) (d:=d) bz hb hu2 hv2
       simp only [Op.eqFields,ne_eq,h1,not_false_eq_true,if_true,part,Fj,Mz h3,Ev,h2,hu,hv,It,C8,if_false,e,Sem.run_ite,ih]
       cases a <;> simp
      ·simp at h
   ·simp at hk
theorem N6 {w:World} {t e:TypeId} {p:Option Addr} (h:P.underlying t=some (.pointer e)):(Op.equal t (.pointer p) (.pointer none)).run P w=.ok p.isNone w:=by
 have hd:Op.maxDepth=9999+1:=rfl;unfold Op.equal;rw [hd,Op.equalIn];cases p <;> simp [Bk h,samePointer]
theorem La {C:Cx} {b:BinOp} {t:TypeId} {ox oy:Operand} {p:Option Addr} {r:Bool} {av:AV} (h:Kh b (Uo P t) r=some av) (hr:r=p.isNone):Has P C (do eqGuard b t ox oy (.pointer p) (.pointer none); binOp b t (.pointer p) (.pointer none)) av:=by
 unfold Kh at h;split at h
 ·rename_i hp;unfold Uo at hp;split at hp
  ·rename_i e he;subst hr;split at h
   ·exact Ya0q
   ·exact Ya0q
   ·simp at h
  ·simp at hp
 ·simp at h
theorem Afk {C:Cx} {b:BinOp} {t:TypeId} {ox oy:Operand} {x y av:AV} {vx vy:Value} (hx:VR C x vx) (hy:VR C y vy) (h:aBin P b t x y=some av):Has P C (do eqGuard b t ox oy vx vy; binOp b t vx vy) av:=by
 unfold aBin at h;split at h
 ·split at h
  ·rename_i hk; subst hk;simp only [VR] at hx hy; subst hx hy;obtain ⟨v,h1,h2⟩:=Y0 (P:=P) (C:=C) (t:=t) h;exact ⟨v,Za38,h2⟩
  ·simp at h
 ·simp only [VR] at hx hy; subst hx hy;obtain ⟨v,h1,h2⟩:=Y1 (P:=P) (C:=C) (t:=t) h;exact ⟨v,Za38,h2⟩
 ·simp only [VR] at hx hy; subst hx hy;split at h
  ·rename_i ht;cases b <;> simp only [binBool] at h;case eql=>simp only [A2] at h; subst h; refine .mk ?_; rw [Fj,D1 (by simp)]; simp [binOp,run_equal_bool _ _ _ _ ht]
   case neq=>simp only [A2] at h; subst h; refine .mk ?_; rw [Fj,D1 (by simp)]; simp [binOp,run_equal_bool _ _ _ _ ht]
   all_goals simp at h
  ·simp at h
 ·simp only [VR] at hx hy;obtain ⟨vs,rfl,hx⟩:=hx;obtain ⟨us,rfl,hy⟩:=hy;split at h
  ·rename_i ks l7;unfold Zq at l7;split at l7
   ·rename_i fs hu;split at l7
    ·rename_i hh;have hf:P.underlying t=some (.struct (P.fieldsOf t)):=by unfold Program.fieldsOf; rw [hu]
     have hfs:(P.fieldsOf t).toList=fs.toList:=by unfold Program.fieldsOf; rw [hu]
     have e:∀ c,cellsEq ks _ _=some c->(Op.equalIn 10000 t (.agg vs) (.agg us)).run P C.w=.ok c C.w:=fun c hc=>by
      rw [run_equalIn_agg C.w 9999 t vs us hf hh.1,hfs];exact Mb l7 hc cX (by simpa using hy)
     cases b <;> simp only [] at h;case eql =>
      simp only [Ca] at h
      obtain ⟨c,hc,rfl⟩:=h
      refine .mk ?_
      rw [Fj,run_eqGuard_agg _ _ _ _ _ _ _ hh.2,Ev,run_eql_struct,e c hc]; rfl
     case neq =>
      simp only [Ca] at h
      obtain ⟨c,hc,rfl⟩:=h
      refine .mk ?_
      rw [Fj,run_eqGuard_agg _ _ _ _ _ _ _ hh.2,Ev,run_neq_struct,e c hc]; rfl
     all_goals simp at h
    ·simp at l7
   ·simp at l7
  ·simp at h
 ·simp only [VR] at hx hy;obtain ⟨p,rfl,-⟩:=hx;subst hy;exact La h rfl
 ·simp only [VR] at hx hy;obtain ⟨p,o,vs,rfl,-⟩:=hx;subst hy;exact La h rfl
 ·simp only [VR] at hx hy;subst hx hy;exact La h rfl
 ·split at h
  ·rename_i es c e r he hn;simp only [VR] at hx hy;obtain ⟨a,len,cap,rfl,h1,h2,h3,h4⟩:=hx;obtain ⟨a2,len2,cap2,rfl,g1,g2,g3,g4⟩:=hy;obtain ⟨rfl,g3⟩:=(g3:a2=none/\cap2=len2);have ht:P.underlying t=some (.slice e):=by
    unfold A7 at he;split at he
    ·simp only [A2] at he; subst he; assumption
    ·simp at he
   have ea:a.isNone=r:=by
    unfold nilA at hn;split at hn <;> simp only [A2,reduceCtorEq] at hn <;> subst hn
    ·rcases h4 with h4|⟨b,o,sz,rfl,-⟩
     ·simp at h4
     ·rfl
    ·obtain ⟨rfl,-⟩:=(h3:a=none/\cap=len); rfl
    ·have:a=none:=h3; subst this; rfl
    ·have:a.isSome=true:=h3;cases a <;> simp at this ⊢
   subst ea;cases b <;> simp only [A2,reduceCtorEq] at h;case eql=>subst h; refine .mk ?_; rw [Fj,D1 (by simp)]; exact Lib.run_eql_slice_nil _ _ _ _ _ _ _ _ ht
   case neq=>subst h; refine .mk ?_; rw [Fj,D1 (by simp)]; exact N7 _ _ _ _ _ _ _ _ ht
  ·simp at h
 ·simp at h
theorem Ahs {C:Cx} {u:UnOp} {x av:AV} {vx:Value} (hx:VR C x vx) (h:aUn u x=some av):Has P C (Op.unary u vx) av:=by
 unfold aUn at h;split at h
 ·simp only [VR] at hx; subst hx; simp only [A2] at h; subst h; exact .mk (by simp [Op.unary,Op.intArith])
 ·simp only [VR] at hx; subst hx; simp only [A2] at h; subst h; exact .mk (by simp [Op.unary])
 ·simp at h
theorem Q9 {C:Cx} {s d:TypeId} {x av:AV} {vx:Value} (hx:VR C x vx) (h:Yq P s d x=some av):Has P C (convert s d vx) av:=by
 unfold Yq at h;split at h
 ·split at h
  ·rename_i k k' h1 h2;simp only [VR] at hx; subst hx; simp only [A2] at h; subst h;refine .mk ?_;simp [convert,Bk (Ph h1),Bk (Ph h2),Conv.intToInt]
  ·simp at h
 ·split at h
  ·rename_i hs;simp only [Ch] at hs;simp only [VR] at hx; subst hx; simp only [A2] at h; subst h;refine .mk ?_;simp [convert,Bk (Hu hs.1),Bk (Hu hs.2)]
  ·simp at h
 ·simp at h
theorem Du (b o n:Nat):iB ⟨b,o,none⟩ n=⟨b,o+n,none⟩:=by
 unfold iB; split
 ·rename_i h; rw [h]; rfl
 ·rfl
theorem Ac0 {w:World} {A:Nat->Nat->Prop} {b sz:Nat} : ∀ {es:List (List AV)} {o k:Nat} {e:List AV},Bf w A b sz o es->nth es k=some e->e.length=sz/\∃ vs,Lie w A b (o+k*sz) vs/\PRs w A e vs
 | e :: es,o,0,_,h,he=>by
  simp only [nth,A2] at he; subst he;simp only [Bf] at h;exact ⟨h.1,by simpa using h.2.1⟩
 | e :: es,o,k+1,_,h,he=>by
  simp only [Bf] at h;obtain ⟨h1,h2⟩:=Ac0 h.2.2 he;refine ⟨h1,?_⟩;rw [show o+(k+1)*sz=o+sz+k*sz from by rw [Od]; omega];exact h2
 | [],_,_,_,_,he=>by simp [nth] at he
theorem Bh {α:Type} : ∀ {l:List α} {k:Nat} {x:α},nth l k=some x->k<l.length
 | _ :: _,0,_,_=>by simp
 | _ :: l,k+1,_,h=>by have:=Bh (l:=l) h; simp; omega
 | [],_,_,h=>bQ
theorem Ej {C:Cx} {x:AV} {v:Value} {k:Nat} (h:intN x=some k) (hx:VR C x v):∃ ki,v=.int ki (k:Int):=by
 unfold intN at h;split at h
 ·split at h
  ·rename_i h0; simp only [A2] at h; subst h;simp only [VR] at hx; subst hx;exact ⟨_,by rw [Int.toNat_of_nonneg h0]⟩
  ·simp at h
 ·simp at h
theorem Qj {w:World} {A:Nat->Nat->Prop} {b:Nat} : ∀ {vs:List Value} {o:Nat} (n:Nat),Lie w A b o vs->Lie w A b (o+n) (vs.drop n)
 | [],_,n,_=>by simp [Lie]
 | vs,_,0,h=>h
 | _ :: vs,o,n+1,h=>by
  have:=Qj (vs:=vs) n h.2.2;rw [show o+(n+1)=o+1+n from by omega]; exact this
theorem V5 {w:World} {A:Nat->Nat->Prop} : ∀ {cs vs} (n:Nat),PRs w A cs vs->PRs w A (cs.drop n) (vs.drop n)
 | [],[],n,_=>by simp only [List.drop_nil,PRs]
 | cs,vs,0,h=>h
 | _ :: cs,_ :: vs,n+1,h=>by simp only [PRs] at h; exact V5 n h.2
 | [],_ :: _,_+1,h=>bL
 | _ :: _,[],_+1,h=>bL
theorem Yv {t:TypeId} {n sz:Nat} (h:Ami P t=some (n,sz)):∃ e,P.underlying t=some (.array n e)/\szOf P e=some sz:=by
 unfold Ami at h;split at h
 ·rename_i n' e hu;simp only [Ca,Cg] at h;obtain ⟨s,h1,rfl,rfl⟩:=h;exact ⟨e,hu,h1⟩
 ·simp at h
theorem Afw {C:Cx} {t:TypeId} {x i av:AV} {vx vi:Value} (hx:VR C x vx) (hi:VR C i vi) (h:idxA P t x i=some av):Has P C (Instr.indexAt t vx vi) av:=by
 unfold idxA at h;split at h
 ·rename_i id ep off k hk;obtain ⟨ki,rfl⟩:=Ej hk hi;split at h
  ·rename_i n sz ha;split at h
   ·rename_i hlt;simp only [A2] at h; subst h;obtain ⟨e,he,hs⟩:=Yv ha;simp only [VR] at hx;obtain ⟨b,rfl,h3,h4⟩:=hx;refine ⟨.pointer (some ⟨b,off+k*sz,none⟩),?_,?_⟩
    ·exact Ya0m
    ·simp only [VR];exact ⟨b,rfl,h3,h4⟩
   ·simp at h
  ·simp at h
 ·rename_i cs k hk;obtain ⟨ki,rfl⟩:=Ej hk hi;split at h
  ·rename_i n sz ha;split at h
   ·rename_i hlt;simp only [A2] at h; subst h;obtain ⟨e,he,hs⟩:=Yv ha;simp only [VR] at hx;obtain ⟨b,o,vs,rfl,hl,hp⟩:=hx;refine ⟨.pointer (some ⟨b,o+k*sz,none⟩),?_,?_⟩
    ·exact Ya0m
    ·simp only [VR];exact ⟨b,_,_,rfl,Qj _ hl,V5 _ hp⟩
   ·simp at h
  ·simp at h
 ·rename_i es c k hk;obtain ⟨ki,rfl⟩:=Ej hk hi;split at h
  ·rename_i cs sz hn hs;split at h
   ·rename_i hlen;simp only [A2] at h; subst h;simp only [VR] at hx;obtain ⟨a,len,cap,rfl,h1,h2,-,h3⟩:=hx;have hlt:=Bh hn;rcases h3 with h3|⟨b,o,sz',rfl,hr⟩
    ·subst h3; simp at hlt
    ·obtain ⟨h4,vs,hl,hp⟩:=Ac0 hr hn;simp only [Ig] at hs;obtain ⟨e,he,hs⟩:=hs;refine ⟨.pointer (some ⟨b,o+k*sz,none⟩),?_,?_⟩
     ·exact Ya0s
     ·simp only [VR];exact ⟨b,_,vs,rfl,by rw [<- hlen,h4]; exact hl,hp⟩
   ·simp at h
  ·simp at h
 ·rename_i id ep off len sz k hk;obtain ⟨ki,rfl⟩:=Ej hk hi;split at h
  ·rename_i hh;obtain ⟨hlt,hs⟩:=hh;simp only [A2] at h; subst h;simp only [Ig] at hs;obtain ⟨e,he,hs⟩:=hs;simp only [VR] at hx;obtain ⟨b,a,cap,rfl,h1,h2,h3,h4⟩:=hx;rcases h2 with h2|rfl
   ·omega
   ·refine ⟨.pointer (some ⟨b,off+k*sz,none⟩),?_,?_⟩
    ·exact Ya0s
    ·simp only [VR];exact ⟨b,rfl,h3,fun e he md=>(h4 e he md).1⟩
  ·simp at h
 ·simp at h
theorem Ml {t:TypeId} {k off sz:Nat} {b:Bool} (h:Az P t k=some (off,sz,b)):∃ fs f,P.underlying t=some (.struct fs)/\fs[k]?=some f/\f.offset=off/\szOf P f.type=some sz/\aggT P f.type=some b/\sz≠0:=by
 unfold Az at h;split at h
 ·rename_i fs hu;split at h
  ·rename_i f hf;split at h
   ·rename_i s b' hs ha;simp only [A2,Cg] at h;obtain ⟨rfl,rfl,rfl⟩:=h;exact ⟨fs,f,hu,hf,rfl,hs,ha,aA⟩
   ·simp at h
  ·simp at h
 ·simp at h
theorem Aft {C:Cx} {t:TypeId} {x av:AV} {k:Nat} {vx:Value} (hx:VR C x vx) (h:fldA P t x k=some av):Has P C (Instr.fieldAt t vx k) av:=by
 unfold fldA at h;split at h
 ·rename_i off sz b cs hf;obtain ⟨fs,f,hu,hfk,h1,h2,h3,h4⟩:=Ml hf;simp only [A2] at h; subst h;simp only [VR] at hx;obtain ⟨b,o,vs,rfl,hl,hp⟩:=hx;refine ⟨.pointer (some ⟨b,o+off,none⟩),?_,?_⟩
  ·exact Ya34
  ·simp only [VR];exact ⟨b,_,_,rfl,Qj off hl,V5 off hp⟩
 ·rename_i off sz b id ep o hf;obtain ⟨fs,f,hu,hfk,h1,h2,h3,h4⟩:=Ml hf;simp only [A2] at h; subst h;simp only [VR] at hx;obtain ⟨b,rfl,hn,hx⟩:=hx;refine ⟨.pointer (some ⟨b,o+off,none⟩),?_,?_⟩
  ·exact Ya34
  ·simp only [VR];exact ⟨b,rfl,hn,hx⟩
 ·simp at h
theorem Ald {n:Nat} {cs ds:List AV} (h:takeN n cs=some ds):ds=cs.take n/\n<=cs.length:=by
 induction n generalizing cs ds with
 | zero=>simp only [takeN,A2] at h; subst h; simp
 | succ n ih =>
  cases cs with
  | nil=>simp [takeN] at h
  | cons c cs =>
   simp only [takeN,Ca] at h;obtain ⟨ds',h1,rfl⟩:=h;obtain ⟨h2,h3⟩:=ih h1;exact ⟨by simp [h2],fD⟩
theorem Agc {C:Cx} {t:TypeId} {off sz:Nat} {b:Bool} {cs:List AV} {vs:Array Value} {av:AV} (hs:szOf P t=some sz) (ha:aggT P t=some b) (hx:VRs C cs vs.toList) (h:partA b sz (cs.drop off)=some av):Has P C (part t vs off) av:=by
 unfold partA at h;have hd:=Ls off hx;cases b with
 | true =>
  simp only [if_true,Ca] at h;obtain ⟨ds,h1,rfl⟩:=h;obtain ⟨h2,h3⟩:=Jz hd h1;refine ⟨.agg (vs.extract off (off+sz)),?_,?_⟩
  ·simp [part,Mz ha,Er hs]
  ·simp only [VR];refine ⟨_,rfl,?_⟩;have:(vs.extract off (off+sz)).toList=(vs.toList.drop off).take sz:=by simp
   rw [this]; exact h2
 | false =>
  simp only [C8,if_false] at h;obtain ⟨v,h1,h2⟩:=U5 hd h;refine ⟨v,?_,h2⟩;have:vs[off]?=some v:=aR
  simp [part,Mz ha,this]
def OptR (C:Cx) (o:Option AV) (vo:Option Value):Prop:=match o,vo with|none,none=>True|some x,some v=>VR C x v|_,_=>False
theorem J1 {C:Cx} {len lim d k:Nat} {o:Option AV} {vo:Option Value} (xt:len<=lim) (hd:d<=len) (h:bound len o d=some k) (ho:OptR C o vo) :
  k<=len/\(match vo with|some v=>∀ code,(Sj v lim code).run P C.w=.ok k C.w|none=>k=d):=by
 unfold bound at h;cases o with
 | none =>
  cases vo with
  | none=>simp only [A2] at h; subst h; exact ⟨hd,rfl⟩
  | some v=>exact ho.elim
 | some x =>
  cases vo with
  | none=>exact ho.elim
  | some v =>
   simp only [OptR] at h ho;split at h
   ·rename_i k' hk;split at h
    ·rename_i hle;simp only [A2] at h; subst h;obtain ⟨ki,rfl⟩:=Ej hk ho;refine ⟨hle,fun code=>?_⟩;have:(0:Int)<=(k':Int)/\(k':Int)<=(lim:Int):=aA
     simp [Sj,asIntOf,this]
    ·simp at h
   ·simp at h
theorem V4 {C:Cx} {f:Operand->AV} {g:Operand->Value} (h:∀ x,VR C (f x) (g x)) (o:Option Operand):OptR C (o.map f) (o.map g):=by cases o <;> simp [OptR,h]
theorem Ku {C:Cx} {isS:Bool} {len cap h l:Nat} {lo hi mx:Option AV} {vl vh vm:Option Value} (hc:len<=cap) (hl:OptR C lo vl) (hh:OptR C hi vh) (hm:OptR C mx vm)
  (h1:bound len hi len=some h) (h2:bound h lo 0=some l) (h3:∀ m,mx=some m->hi.isSome=true/\intN m=some h) :
  l<=h/\h<=len/\∃ m,(Ox isS len cap vl vh vm).run P C.w=.ok (l,h,m) C.w/\h<=m/\m<=cap/\(mx.isSome=true->m=h)/\(mx=none->m=cap):=by
 cases hmx:mx with
 | none =>
  subst hmx;cases vm with
  | some _=>exact hm.elim
  | none =>
   obtain ⟨a1,a2⟩:=J1 (P:=P) hc (Cc _) h1 hh;obtain ⟨b1,b2⟩:=J1 (P:=P) (Cc h) (Co _) h2 hl;refine ⟨b1,a1,cap,?_,aA,Cc _,by simp,fun _=>rfl⟩;cases vh with
   | none =>
    simp only at a2; subst a2;cases vl with
    | none=>simp only at b2; subst b2; simp [Ox]
    | some v=>simp only at b2; simp [Ox,b2]
   | some u =>
    simp only at a2;cases vl with
    | none=>simp only at b2; subst b2; simp [Ox,a2]
    | some v=>simp only at b2; simp [Ox,a2,b2]
 | some m =>
  subst hmx;cases vm with
  | none=>exact hm.elim
  | some um =>
   obtain ⟨hs,aq⟩:=h3 m rfl;obtain ⟨ki,rfl⟩:=Ej aq hm;cases hi with
   | none=>simp at hs
   | some x =>
    cases vh with
    | none=>exact hh.elim
    | some u =>
     obtain ⟨a1,-⟩:=J1 (P:=P) (C:=C) (vo:=some u) hc (Cc _) h1 hh;obtain ⟨b1,b2⟩:=J1 (P:=P) (Cc h) (Co _) h2 hl;have hu:∀ code,(Sj u h code).run P C.w=.ok h C.w:=by
      intro code;unfold bound at h1;simp only at h1;split at h1
      ·rename_i k' hk;split at h1
       ·simp only [A2] at h1; subst h1;obtain ⟨kj,rfl⟩:=Ej hk hh;simp [Sj,asIntOf]
       ·simp at h1
      ·simp at h1
     have hv:∀ code,(Sj (.int ki (h:Int)) cap code).run P C.w=.ok h C.w:=by
      intro code;have:(0:Int)<=(h:Int)/\(h:Int)<=(cap:Int):=aA
      simp [Sj,asIntOf,this]
     refine ⟨b1,a1,h,?_,Cc _,aA,fun _=>rfl,by simp⟩;cases vl with
     | none=>simp only at b2; subst b2; simp [Ox,hu,hv]
     | some v=>simp only at b2; simp [Ox,b2,hu,hv]
theorem Pd {w:World} {A:Nat->Nat->Prop} {b sz:Nat} : ∀ {es:List (List AV)} {o:Nat} (n:Nat),Bf w A b sz o es->Bf w A b sz o (es.take n)
 | [],_,n,_=>by simp [Bf]
 | _ :: _,_,0,_=>by simp [Bf]
 | e :: es,o,n+1,h=>by simp only [Bf,F1] at h ⊢; exact ⟨h.1,h.2.1,Pd n h.2.2⟩
theorem Uy {w:World} {A:Nat->Nat->Prop} {b sz:Nat} : ∀ {es:List (List AV)} {o:Nat} (n:Nat),Bf w A b sz o es->Bf w A b sz (o+n*sz) (es.drop n)
 | [],_,n,_=>by simp [Bf]
 | es,o,0,h=>aJ
 | e :: es,o,n+1,h=>by
  simp only [Bf] at h;have:=Uy (o:=o+sz) n h.2.2;rw [show o+(n+1)*sz=o+sz+n*sz from by rw [Od]; omega]; exact this
theorem M7 {w:World} {A:Nat->Nat->Prop} {b sz sz':Nat} {es:List (List AV)} {o:Nat} (h:Bf w A b sz o es) (hr:B9 sz' es=true) (hne:es≠[]):sz=sz':=by
 cases es with
 | nil=>exact absurd rfl hne
 | cons e es =>
  simp only [Bf] at h;simp only [B9,fU,Ch,beq_iff_eq] at hr;omega
theorem Aaw {C:Cx} {t:TypeId} {x av:AV} {vx:Value} {lo hi mx:Option AV} {vl vh vm:Option Value} (hx:VR C x vx) (hl:OptR C lo vl) (hh:OptR C hi vh) (hm:OptR C mx vm)
  (h:Kk P t x lo hi mx=some av):Has P C (fV t vx vl vh vm) av:=by
 unfold Kk at h;split at h
 ·rename_i s;simp only [VR] at hx; subst hx;split at h
  ·rename_i ht;split at h
   ·rename_i h' hb;split at h
    ·rename_i l hb2;simp only [A2] at h; subst h;obtain ⟨h1,h2,m,h3,-⟩:=Ku (P:=P) (isS:=false) (Cc _) hl hh hm hb hb2 (by simp);have e:=Hu ht;refine .mk ?_;cases vm with
     | some _=>exact hm.elim
     | none=>simp [fV,Bk e,Instr.slice,h3]
    ·simp at h
   ·simp at h
  ·simp at h
 ·rename_i es c;simp only [VR] at hx;obtain ⟨a,len,cap,rfl,e1,e2,e3,e4⟩:=hx;split at h
  ·rename_i sz hsz;simp only [Ig] at hsz;obtain ⟨el,he,hs⟩:=hsz;split at h
   ·rename_i hro;split at h
    ·rename_i h' hb;have key:∀ l,bound h' lo 0=some l->(∀ m,mx=some m->hi.isSome=true/\intN m=some h')->∃ a' cap',(fV t (.slice a len cap) vl vh vm).run P C.w=.ok (.slice a' (h' - l) cap') C.w/\h' - l<=cap'/\(mx.isSome=true->cap'=h' - l) /\
       (((es.take h').drop l).length=h' - l)/\(((es.take h').drop l)=[]\/∃ b o sz,a'=some ⟨b,o,none⟩/\Bf C.w C.Avoid b sz o ((es.take h').drop l)):=by
      intro l hb2 h3;obtain ⟨g1,g2,m,g3,g4,g5,g6,g7⟩:=Ku (P:=P) (cap:=cap) (isS:=true) aA hl hh hm hb hb2 h3;refine ⟨if m=l then a else a.map (·.add (l*sz)),m - l,?_,aA,fun hs=>by rw [g6 hs],?_,?_⟩
      ·rw [e1] at g3;simp [fV,Bk (Dy he),Instr.slice,g3,Er hs]
      ·rw [gQ,Ix]; omega
      ·by_cases tv:l<h'
       ·rcases e4 with e4|⟨b,o,sz',rfl,hr⟩
        ·subst e4; simp
        ·right;have hne:es≠[]:=by intro e; subst e; simp at g2; omega
         have:sz'=sz:=M7 hr hro hne;subst this;refine ⟨b,o+l*sz',sz',?_,Uy l (Pd h' hr)⟩;rw [if_neg aA]; simp [Du]
       ·left;apply Fm;rw [gQ,Ix]; omega
     split at h
     ·rename_i l hb2;simp only [A2] at h; subst h;obtain ⟨a',cap',k1,k2,k3,k4,k5⟩:=key l hb2 (by simp);exact ⟨_,k1,by simp only [VR]; exact ⟨a',_,cap',rfl,k4,k2,trivial,k5⟩⟩
     ·rename_i l m hb2;split at h
      ·rename_i hc;simp only [A2] at h; subst h;obtain ⟨a',cap',k1,k2,k3,k4,k5⟩:=key l hb2 Za18;exact ⟨_,k1,by simp only [VR]; exact ⟨a',_,cap',rfl,k4,k2,k3 rfl,k5⟩⟩
      ·simp at h
     ·simp at h
    ·simp at h
   ·simp at h
  ·simp at h
 ·rename_i id ep off len sz;simp only [VR] at hx;obtain ⟨b,a,cap,rfl,e1,e2,e3,e4⟩:=hx;split at h
  ·rename_i hsz;simp only [Ig] at hsz;obtain ⟨el,he,hs⟩:=hsz;split at h
   ·rename_i h' hb;have key:∀ l,bound h' lo 0=some l->(∀ m,mx=some m->hi.isSome=true/\intN m=some h')->Has P C (fV t (.slice a len cap) vl vh vm) (.sref id ep (off+l*sz) (h' - l) sz):=by
     intro l hb2 h3;obtain ⟨g1,g2,m,g3,g4,g5,g6,g7⟩:=Ku (P:=P) (cap:=cap) (isS:=true) aA hl hh hm hb hb2 h3;refine ⟨.slice (if m=l then a else a.map (·.add (l*sz))) (h' - l) (m - l),?_,?_⟩
     ·simp [fV,Bk (Dy he),Instr.slice,g3,Er hs]
     ·simp only [VR];refine ⟨b,_,_,rfl,aA,?_,e3,fun e he md=>?_⟩;rotate_left
      ·obtain ⟨q1,cs,t',q2,q3⟩:=e4 e he md;refine ⟨q1,cs,t',q2,?_⟩;have:l*sz+(m - l)*sz<=cap*sz:=by rw [<- Sg]; exact Ic _ aA
       omega
      by_cases tv:l<h'
      ·right;rw [if_neg aA];rcases e2 with e2|rfl
       ·omega
       ·simp [Du]
      ·left; omega
    split at h
    ·rename_i l hb2;simp only [A2] at h; subst h;exact key l hb2 (by simp)
    ·rename_i l m hb2;split at h
     ·rename_i hc;simp only [A2] at h; subst h;exact key l hb2 Za18
     ·simp at h
    ·simp at h
   ·simp at h
  ·simp at h
 ·simp at h
/- values laid into cells -/
def puts:List AV->Nat->List AV->List AV
 | cs,_,[]=>cs
 | cs,o,v :: vs=>puts (put cs o v) (o+1) vs
def sets:List Value->Nat->List Value->List Value
 | l,_,[]=>l
 | l,o,v :: vs=>sets (l.set o v) (o+1) vs
theorem Lc (c:AV):∀ (vs cs:List AV) (o:Nat),puts (c :: cs) (o+1) vs=c :: puts cs o vs
 | [],_,_=>rfl
 | v :: vs,cs,o=>by simp only [puts,put]; exact Lc c vs (put cs o v) (o+1)
theorem Jp:∀ {cs:List AV} {o:Nat} {vs cs':List AV},over cs o vs=some cs'->cs'=puts cs o vs/\o+vs.length<=cs.length
 | cs,0,[],cs',h=>by simp only [over,A2] at h; subst h; simp [puts]
 | c :: cs,k+1,vs,cs',h=>by
  simp only [over,Ca] at h;obtain ⟨l,h1,rfl⟩:=h;obtain ⟨h2,h3⟩:=Jp h1;exact ⟨by rw [Lc,h2],aB⟩
 | _ :: cs,0,v :: vs,cs',h=>by
  simp only [over,Ca] at h;obtain ⟨l,h1,rfl⟩:=h;obtain ⟨h2,h3⟩:=Jp h1;exact ⟨by simp only [puts,put]; rw [Lc,h2],by simp at h3 ⊢; omega⟩
 | [],0,_ :: _,_,h=>eU
 | [],_+1,_,_,h=>eU
theorem Lt {C:Cx} : ∀ {us vs:List _} {cs:List AV} {l:List Value} {o:Nat},VRs C cs l->VRs C vs us->VRs C (puts cs o vs) (sets l o us)
 | [],[],_,_,_,h,_=>h
 | u :: us,v :: vs,cs,l,o,h,hv=>by
  simp only [VRs] at hv;simp only [puts,sets];exact Lt (Abd o h hv.1) hv.2
 | [],_ :: _,_,_,_,_,h=>aP
 | _ :: _,[],_,_,_,_,h=>aP
theorem Q1 (off:Nat):∀ (us:List Value) (k:Nat) (cells:Array Value),((us.zipIdx k).foldl (fun (cs:Array Value) (x:Value × Nat)=>cs.setIfInBounds (off+x.2) x.1) cells).toList=sets cells.toList (off+k) us
 | [],_,_=>rfl
 | u :: us,k,cells=>by
  simp only [List.zipIdx_cons,Sa,sets];rw [Q1 off us (k+1)];simp [gY]
theorem Gr {C:Cx} {x:AV} {v:Value} {cs:List AV} (h:cellsOf x=some cs) (hx:VR C x v):VRs C cs v.cells.toList:=by
 unfold cellsOf at h;split at h
 ·simp only [A2] at h; subst h;simp only [VR] at hx;obtain ⟨vs,rfl,h⟩:=hx;exact h
 ·simp at h
 ·simp at h
 ·simp at h
 ·simp at h
 ·rename_i n1 n2 n3 n4 n5;simp only [A2] at h; subst h;have:v.cells=#[v]:=by
   cases v with
   | agg cs =>
    exfalso;cases x with
    | prim v=>simp only [VR] at hx; subst hx; exact n4 _ rfl
    | agg _=>exact n1 _ rfl
    | bot=>exact n3 rfl
    | tup _=>exact n2 _ rfl
    | frz _ _=>simp only [VR] at hx; obtain ⟨_,_,_,e,-⟩:=hx; cases e
    | fptr _=>simp only [VR] at hx; obtain ⟨_,_,_,e,-⟩:=hx; cases e
    | ref _ _ _=>simp only [VR] at hx; obtain ⟨_,e,-⟩:=hx; cases e
    | sref _ _ _ _ _=>simp only [VR] at hx; obtain ⟨_,_,_,e,-⟩:=hx; cases e
    | fn _ _=>simp only [VR] at hx; obtain ⟨_,e,-⟩:=hx; cases e
    | bfn _ _=>simp only [VR] at hx; obtain ⟨_,e,-⟩:=hx; cases e
    | ifc _ _=>simp only [VR] at hx; obtain ⟨_,e,-⟩:=hx; cases e
    | mfn _ _ _=>simp only [VR] at hx; obtain ⟨_,e,-⟩:=hx; cases e
    | lit _ _=>simp only [VR] at hx; obtain ⟨_,_,e,-⟩:=hx; cases e
   | _=>rfl
  rw [this];simp only [VRs];exact ⟨hx,trivial⟩
theorem Ae {α:Type} : ∀ {l:List α} {k:Nat},nth l k=l[k]?
 | [],k=>by simp [nth]
 | _ :: _,0=>rfl
 | _ :: l,k+1=>by simp only [nth]; rw [Ae (l:=l)]; simp
theorem Ve {C:Cx} {pl:List (Nat × Nat)} {place:Nat->Option (Nat × Nat)} (hp:∀ i,place i=nth pl i):∀ {ps:List (Nat × AV)} {us:List (Nat × Value)} {cs ds:List AV} {cells:Array Value},fillA pl cs ps=some ds->VRs C cs cells.toList ->
  ps.length=us.length->(∀ (k i:Nat) (x:AV) (j:Nat) (u:Value),ps[k]?=some (i,x)->us[k]?=some (j,u)->i=j/\VR C x u)->∃ out,O4 place cells us=some out/\VRs C ds out.toList/\out.size=cells.size
 | [],[],cs,ds,cells,h,hc,_,_=>by simp only [fillA,A2] at h; subst h; exact ⟨cells,rfl,hc,rfl⟩
 | (i,x) :: ps,(j,u) :: us,cs,ds,cells,h,hc,hlen,aw=>by
  simp only [fillA] at h;split at h
  ·rename_i off sz vs hn jg;split at h
   ·rename_i hl;split at h
    ·rename_i cs' ho;obtain ⟨rfl,hxu⟩:=aw 0 i x j u rfl rfl;have hv:=Gr jg hxu;obtain ⟨h1,h2⟩:=Jp ho;have e1:u.cells.size=sz:=by have:=A3 hv; simp at this; omega
     have e2:off+u.cells.size<=cells.size:=by have:=A3 hc; simp at this; omega
     have b9:VRs C cs' (u.cells.zipIdx.foldl (fun cs (x:Value × Nat)=>cs.setIfInBounds (off+x.2) x.1) cells).toList:=by
      rw [<- iP,iJ,Q1 off u.cells.toList 0 cells,h1];exact Lt hc hv
     obtain ⟨out,k1,k2,k3⟩:=Ve hp h b9 (by simpa using hlen) (fun k i' x' j' u' a b=>aw (k+1) i' x' j' u' (by simpa using a) (by simpa using b));refine ⟨out,?_,k2,?_⟩
     ·have a2p:¬ (u.cells.size≠sz\/off+u.cells.size > cells.size):=by rintro (h|h) <;> omega
      have:O4 place cells ((i,u) :: us)=O4 place (u.cells.zipIdx.foldl (fun cs (x:Value × Nat)=>cs.setIfInBounds (off+x.2) x.1) cells) us:=by
       simp [O4,hp,hn,e1];omega
      rw [this]; exact k1
     ·rw [k3];have:=A3 b9;have:=A3 hc;have:cs'.length=cs.length:=by
       rw [h1]; clear h1 ho hl jg h2 hv b9 aw hlen h;have:∀ (vs cs:List AV) (o:Nat),(puts cs o vs).length=cs.length:=by
        intro vs;induction vs with
        | nil=>intro _ _; rfl
        | cons v vs ih =>
         intro cs o;simp only [puts];rw [ih];have:∀ (cs:List AV) (o:Nat) (v:AV),(put cs o v).length=cs.length:=by
          intro cs;induction cs with
          | nil=>intro _ _; rfl
          | cons c cs ih=>intro o v; cases o <;> simp [put,ih]
         rw [this]
       exact this vs cs off
      simp at *;omega
    ·simp at h
   ·simp at h
  ·simp at h
 | [],_ :: _,_,_,_,_,_,hl,_=>by simp at hl
 | _ :: _,[],_,_,_,_,_,hl,_=>by simp at hl
end
end
end Go.Proofs.YtcandeobhlfkbaaGreat
