/- Part 3. -/
import Derived.Test.YthelkgdmgihhiaaGreatZF2
import Derived.Laws.StructEq
import Derived.Lib.SliceRun
open Array renaming toList_zipIdx->kN,foldl_toList->kS
open Bool renaming and_eq_true->Ch,false_eq_true->C6
open Go renaming sizeOf->lD
open Go.Addr renaming add->kB
open Go.Instr renaming sliceBounds->O6,fill->Si,sureAddr->Sj,sliceBound->Sw,sliceAt->iS
open Go.IntKind renaming i64->Cd
open Go.Result renaming andThen_ok->Fs
open Go.Sem renaming run_bind->F0,run_pure->Iu
open Int renaming toNat_of_nonneg->kM
open List renaming eq_nil_of_length_eq_zero->F2,take_succ_cons->Ga,length_take->I1,all_cons->Ox,foldl_cons->Sn
open Nat renaming le_refl->Ce,zero_le->Cl,mul_le_mul_right->F6,succ_mul->I9,add_assoc->Oy,add_mul->Sx
open Option renaming map_eq_some_iff->Cc,bind_eq_some_iff->Ij
open Option.some renaming injEq->Ba
open Prod.mk renaming injEq->Cf
namespace Go.Proofs.YthelkgdmgihhiaaGreat
section
section
variable {P:Program}
theorem Qh (w:World) (t e:TypeId) (a:Option Addr) (n c n' c':Nat) (h:P.underlying t=some (.slice e)) :
  (binOp .neq t (.slice a n c) (.slice none n' c')).run P w=.ok (.bool (!a.isNone)) w:=by
 simp only [binOp];simp [Op.equal,Op.maxDepth,Lib.run_equalIn_slice_nil w 9999 t e a n c n' c' h]
theorem Bq {w:World} {t:TypeId} {d:TypeDesc} (h:P.underlying t=some d):(underlying t).run P w=.ok d w:=by simp [underlying,h]
theorem E7 {w:World} {t:TypeId} {s:Nat} (h:szOf P t=some s):(lD t).run P w=.ok s w:=by
 simp only [szOf,Cc] at h;obtain ⟨i,h1,h2⟩:=h;simp [lD,typeInfo,h1,h2]
theorem Vr {w:World} {t:TypeId} {b:Bool} (h:aggT P t=some b):(isAgg t).run P w=.ok b w:=by
 simp only [aggT,Cc] at h;obtain ⟨d,h1,h2⟩:=h;subst h2;unfold isAgg;simp only [F0,Bq h1,Fs];cases d <;> rfl
theorem D3 {t e:TypeId} (h:Bc P t=some e):P.underlying t=some (.slice e):=by
 unfold Bc at h;exact Ya36
theorem Je {t:TypeId} (h:Dd P t=true):P.underlying t=some .string:=by
 unfold Dd at h;split at h
 ·assumption
 ·cases h
theorem Qx {t:TypeId} {k} (h:Ke P t=some k):P.underlying t=some (.int k):=by
 unfold Ke at h;exact Ya36
def Has (P:Program) (C:Cx) (s:Sem Value) (av:AV):Prop:=∃ v,s.run P C.w=.ok v C.w/\VR C av v
theorem Has.mk {C:Cx} {s:Sem Value} {v:Value} (h:s.run P C.w=.ok v C.w):Has P C s (.prim v):=⟨v,h,bU⟩
theorem Z2 {C:Cx} {b:BinOp} {k:IntKind} {x y:Int} {av:AV} {t:TypeId} (h:binInt b k x y=some av):Has P C (binOp b t (.int k x) (.int k y)) av:=by
 cases b <;> simp only [binInt] at h;case quo =>
  split at h
  ·simp at h
  ·rename_i h0; simp only [Ba] at h; subst h; exact .mk (by simp [binOp,Op.intDiv,h0])
 case rem =>
  split at h
  ·simp at h
  ·rename_i h0; simp only [Ba] at h; subst h; exact .mk (by simp [binOp,Op.intDiv,h0])
 case shr =>
  split at h
  ·rename_i h0; simp only [Ba] at h; subst h
   obtain ⟨h1,h2,h3⟩:=h0
   have e:min y.toNat k.bits=y.toNat:=aA
   exact .mk (by simp [binOp,Op.shift,e]; omega)
  ·simp at h
 all_goals first
  | (simp only [Ba] at h; subst h; refine .mk ?_; simp [binOp,Op.intArith,Op.intCmp]; done)
  | (simp at h; done)
theorem Z3 {C:Cx} {b:BinOp} {x y:ByteArray} {av:AV} {t:TypeId} (h:binStr b x y=some av):Has P C (binOp b t (.string x) (.string y)) av:=by
 cases b <;> simp only [binStr] at h;case add =>
  split at h
  ·rename_i h0; simp only [Ba] at h; subst h
   refine .mk ?_
   have:¬ ((x.size+y.size:Nat):Int) > Cd.max:=by simp [IntKind.max,IntKind.bits,IntKind.signed]; omega
   simp only [binOp,Op.stringOp,if_neg this]; rfl
  ·simp at h
 all_goals first
  | (simp only [Ba] at h; subst h; refine .mk ?_; simp [binOp,Op.stringOp,sEq,sLt]; done)
  | (simp at h; done)
theorem D5 {w:World} {b:BinOp} {t:TypeId} {ox oy:Operand} {x y:Value} (h:(∀ cs,x≠.agg cs)/\x≠.nilIface):(eqGuard b t ox oy x y).run P w=.ok () w:=by
 unfold eqGuard;cases x <;> first|exact absurd rfl h.2|exact absurd rfl (h.1 _)|(cases y <;> cases b <;> rfl)
theorem Z7 {C:Cx} {w:World} {k:Nat} {x y:AV} {vx vy:Value} {c:Bool} (h:T5 k x y=some c) (hx:VR C x vx) (hy:VR C y vy) {t:TypeId} {d:Nat}
  (ht:Aa1 P t=some k):(Op.equalIn (d+1) t vx vy).run P w=.ok c w:=by
 unfold T5 at h;split at h
 ·simp only [VR] at hx hy; subst hx hy;simp only [Ba] at h; subst h;refine run_equalIn_bool' w d t _ _ ?_;unfold Aa1 at ht; split at ht <;> simp at ht; assumption
 ·split at h
  ·rename_i hk; subst hk;simp only [VR] at hx hy; subst hx hy;simp only [Ba] at h; subst h;unfold Aa1 at ht; split at ht <;> simp at ht;rename_i h'; exact run_equalIn_int w d t _ _ _ _ h'
  ·simp at h
 ·simp only [VR] at hx hy; subst hx hy;simp only [Ba] at h; subst h;unfold Aa1 at ht; split at ht <;> simp at ht;rename_i h'; exact run_equalIn_string w d t _ _ h'
 ·simp at h
theorem M8 {C:Cx} {w:World} {d:Nat} : ∀ {fs:List Field} {i:Nat} {ks:List Nat} {xs ys:List AV} {vx vy:Array Value} {c:Bool},Uu P i fs=some ks->cellsEq ks xs ys=some c ->
  VRs C xs (vx.toList.drop i)->VRs C ys (vy.toList.drop i)->(Op.eqFields (d+1) vx vy fs).run P w=.ok c w
 | [],i,ks,xs,ys,vx,vy,c,hk,h,hx,hy=>by
  simp only [Uu,Ba] at hk;subst hk;cases xs <;> cases ys <;> simp only [cellsEq] at h
  ·simp at h; subst h; rfl
  all_goals simp at h
 | f :: fs,i,ks,xs,ys,vx,vy,c,hk,h,hx,hy=>by
  simp only [Uu] at hk;split at hk
  ·simp at hk
  ·rename_i hn;simp only [not_or,Decidable.not_not] at hn;obtain ⟨h1,h2,h3⟩:=hn;split at hk
   ·rename_i k ks' hk1 bu;simp only [Ba] at hk; subst hk;cases xs with
    | nil=>simp [cellsEq] at h
    | cons x xs=>cases ys with
     | nil=>simp [cellsEq] at h
     | cons y ys =>
      simp only [cellsEq] at h
      split at h
      ·rename_i a b ha hb
       simp only [Ba] at h; subst h
       have key:∀ {xs:List AV} {x:AV} {vx:Array Value},VRs C (x :: xs) (vx.toList.drop i)->∃ v,vx[i]?=some v/\VR C x v/\VRs C xs (vx.toList.drop (i+1)):=by
        intro xs x vx hx;cases hd:vx.toList.drop i with
        | nil=>rw [hd] at hx; simp only [VRs] at hx
        | cons v vs =>
         rw [hd] at hx; simp only [VRs] at hx;have e0:vx.toList[i]?=some v:=by
          have:=congrArg (fun l=>l[0]?) hd;exact Ya1y
         have e1:vx.toList.drop (i+1)=vs:=by
          have:=congrArg List.tail hd;exact Ya1y
         exact ⟨v,by simpa using e0,hx.1,by rw [e1]; exact hx.2⟩
       obtain ⟨u,hu,hu1,hu2⟩:=key hx
       obtain ⟨v,hv,zq,zr⟩:=key hy
       have e:=Z7 (P:=P) (w:=w) (d:=d) ha hu1 zq hk1
       have ih:=M8 (w:=w) (d:=d) bu hb hu2 zr
       simp only [Op.eqFields,ne_eq,h1,not_false_eq_true,if_true,part,F0,Vr h3,Fs,h2,hu,hv,Iu,C6,if_false,e,Sem.run_ite,ih]
       cases a <;> simp
      ·simp at h
   ·simp at hk
theorem Qg {w:World} {t e:TypeId} {p:Option Addr} (h:P.underlying t=some (.pointer e)):(Op.equal t (.pointer p) (.pointer none)).run P w=.ok p.isNone w:=by
 have hd:Op.maxDepth=9999+1:=rfl;unfold Op.equal;rw [hd,Op.equalIn];cases p <;> simp [Bq h,samePointer]
theorem Lv {C:Cx} {b:BinOp} {t:TypeId} {ox oy:Operand} {p:Option Addr} {r:Bool} {av:AV} (h:K6 b (V5 P t) r=some av) (hr:r=p.isNone):Has P C (do eqGuard b t ox oy (.pointer p) (.pointer none); binOp b t (.pointer p) (.pointer none)) av:=by
 unfold K6 at h;split at h
 ·rename_i hp;unfold V5 at hp;split at hp
  ·rename_i e he;subst hr;split at h
   ·exact Ya0x
   ·exact Ya0x
   ·simp at h
  ·simp at hp
 ·simp at h
theorem Ag7 {C:Cx} {b:BinOp} {t:TypeId} {ox oy:Operand} {x y av:AV} {vx vy:Value} (hx:VR C x vx) (hy:VR C y vy) (h:aBin P b t x y=some av):Has P C (do eqGuard b t ox oy vx vy; binOp b t vx vy) av:=by
 unfold aBin at h;split at h
 ·split at h
  ·rename_i hk; subst hk;simp only [VR] at hx hy; subst hx hy;obtain ⟨v,h1,h2⟩:=Z2 (P:=P) (C:=C) (t:=t) h;exact ⟨v,Za41,h2⟩
  ·simp at h
 ·simp only [VR] at hx hy; subst hx hy;obtain ⟨v,h1,h2⟩:=Z3 (P:=P) (C:=C) (t:=t) h;exact ⟨v,Za41,h2⟩
 ·simp only [VR] at hx hy; subst hx hy;split at h
  ·rename_i ht;cases b <;> simp only [binBool] at h;case eql=>simp only [Ba] at h; subst h; refine .mk ?_; rw [F0,D5 (by simp)]; simp [binOp,run_equal_bool _ _ _ _ ht]
   case neq=>simp only [Ba] at h; subst h; refine .mk ?_; rw [F0,D5 (by simp)]; simp [binOp,run_equal_bool _ _ _ _ ht]
   all_goals simp at h
  ·simp at h
 ·simp only [VR] at hx hy;obtain ⟨vs,rfl,hx⟩:=hx;obtain ⟨us,rfl,hy⟩:=hy;split at h
  ·rename_i ks hks;unfold Aar at hks;split at hks
   ·rename_i fs hu;split at hks
    ·rename_i hh;have hf:P.underlying t=some (.struct (P.fieldsOf t)):=by unfold Program.fieldsOf; rw [hu]
     have hfs:(P.fieldsOf t).toList=fs.toList:=by unfold Program.fieldsOf; rw [hu]
     have e:∀ c,cellsEq ks _ _=some c->(Op.equalIn 10000 t (.agg vs) (.agg us)).run P C.w=.ok c C.w:=fun c hc=>by
      rw [run_equalIn_agg C.w 9999 t vs us hf hh.1,hfs];exact M8 hks hc dA (by simpa using hy)
     cases b <;> simp only [] at h;case eql =>
      simp only [Cc] at h
      obtain ⟨c,hc,rfl⟩:=h
      refine .mk ?_
      rw [F0,run_eqGuard_agg _ _ _ _ _ _ _ hh.2,Fs,run_eql_struct,e c hc]; rfl
     case neq =>
      simp only [Cc] at h
      obtain ⟨c,hc,rfl⟩:=h
      refine .mk ?_
      rw [F0,run_eqGuard_agg _ _ _ _ _ _ _ hh.2,Fs,run_neq_struct,e c hc]; rfl
     all_goals simp at h
    ·simp at hks
   ·simp at hks
  ·simp at h
 ·simp only [VR] at hx hy;obtain ⟨p,rfl,-⟩:=hx;subst hy;exact Lv h rfl
 ·simp only [VR] at hx hy;obtain ⟨p,o,vs,rfl,-⟩:=hx;subst hy;exact Lv h rfl
 ·simp only [VR] at hx hy;subst hx hy;exact Lv h rfl
 ·split at h
  ·rename_i es c e r he hn;simp only [VR] at hx hy;obtain ⟨a,len,cap,rfl,h1,h2,h3,h4⟩:=hx;obtain ⟨a2,len2,cap2,rfl,g1,g2,g3,g4⟩:=hy;obtain ⟨rfl,g3⟩:=(g3:a2=none/\cap2=len2);have ht:P.underlying t=some (.slice e):=by
    unfold Bc at he;split at he
    ·simp only [Ba] at he; subst he; assumption
    ·simp at he
   have ea:a.isNone=r:=by
    unfold nilA at hn;split at hn <;> simp only [Ba,reduceCtorEq] at hn <;> subst hn
    ·rcases h4 with h4|⟨b,o,sz,rfl,-⟩
     ·simp at h4
     ·rfl
    ·obtain ⟨rfl,-⟩:=(h3:a=none/\cap=len); rfl
    ·have:a=none:=h3; subst this; rfl
    ·have:a.isSome=true:=h3;cases a <;> simp at this ⊢
   subst ea;cases b <;> simp only [Ba,reduceCtorEq] at h;case eql=>subst h; refine .mk ?_; rw [F0,D5 (by simp)]; exact Lib.run_eql_slice_nil _ _ _ _ _ _ _ _ ht
   case neq=>subst h; refine .mk ?_; rw [F0,D5 (by simp)]; exact Qh _ _ _ _ _ _ _ _ ht
  ·simp at h
 ·simp at h
theorem Ajj {C:Cx} {u:UnOp} {x av:AV} {vx:Value} (hx:VR C x vx) (h:aUn u x=some av):Has P C (Op.unary u vx) av:=by
 unfold aUn at h;split at h
 ·simp only [VR] at hx; subst hx; simp only [Ba] at h; subst h; exact .mk (by simp [Op.unary,Op.intArith])
 ·simp only [VR] at hx; subst hx; simp only [Ba] at h; subst h; exact .mk (by simp [Op.unary])
 ·simp at h
theorem Tx {C:Cx} {s d:TypeId} {x av:AV} {vx:Value} (hx:VR C x vx) (h:Zv P s d x=some av):Has P C (convert s d vx) av:=by
 unfold Zv at h;split at h
 ·split at h
  ·rename_i k k' h1 h2;simp only [VR] at hx; subst hx; simp only [Ba] at h; subst h;refine .mk ?_;simp [convert,Bq (Qx h1),Bq (Qx h2),Conv.intToInt]
  ·simp at h
 ·split at h
  ·rename_i hs;simp only [Ch] at hs;simp only [VR] at hx; subst hx; simp only [Ba] at h; subst h;refine .mk ?_;simp [convert,Bq (Je hs.1),Bq (Je hs.2)]
  ·simp at h
 ·simp at h
theorem Dz (b o n:Nat):kB ⟨b,o,none⟩ n=⟨b,o+n,none⟩:=by
 unfold kB; split
 ·rename_i h; rw [h]; rfl
 ·rfl
theorem Aed {w:World} {A:Nat->Nat->Prop} {b sz:Nat} : ∀ {es:List (List AV)} {o k:Nat} {e:List AV},B4 w A b sz o es->nth es k=some e->e.length=sz/\∃ vs,Lie w A b (o+k*sz) vs/\PRs w A e vs
 | e :: es,o,0,_,h,he=>by
  simp only [nth,Ba] at he; subst he;simp only [B4] at h;exact ⟨h.1,by simpa using h.2.1⟩
 | e :: es,o,k+1,_,h,he=>by
  simp only [B4] at h;obtain ⟨h1,h2⟩:=Aed h.2.2 he;refine ⟨h1,?_⟩;rw [show o+(k+1)*sz=o+sz+k*sz from by rw [I9]; omega];exact h2
 | [],_,_,_,_,he=>by simp [nth] at he
theorem Bn {α:Type} : ∀ {l:List α} {k:Nat} {x:α},nth l k=some x->k<l.length
 | _ :: _,0,_,_=>by simp
 | _ :: l,k+1,_,h=>by have:=Bn (l:=l) h; simp; omega
 | [],_,_,h=>bM
theorem Ep {C:Cx} {x:AV} {v:Value} {k:Nat} (h:intN x=some k) (hx:VR C x v):∃ ki,v=.int ki (k:Int):=by
 unfold intN at h;split at h
 ·split at h
  ·rename_i h0; simp only [Ba] at h; subst h;simp only [VR] at hx; subst hx;exact ⟨_,by rw [kM h0]⟩
  ·simp at h
 ·simp at h
theorem R8 {w:World} {A:Nat->Nat->Prop} {b:Nat} : ∀ {vs:List Value} {o:Nat} (n:Nat),Lie w A b o vs->Lie w A b (o+n) (vs.drop n)
 | [],_,n,_=>by simp [Lie]
 | vs,_,0,h=>h
 | _ :: vs,o,n+1,h=>by
  have:=R8 (vs:=vs) n h.2.2;rw [show o+(n+1)=o+1+n from by omega]; exact this
theorem Xe {w:World} {A:Nat->Nat->Prop} : ∀ {cs vs} (n:Nat),PRs w A cs vs->PRs w A (cs.drop n) (vs.drop n)
 | [],[],n,_=>by simp only [List.drop_nil,PRs]
 | cs,vs,0,h=>h
 | _ :: cs,_ :: vs,n+1,h=>by simp only [PRs] at h; exact Xe n h.2
 | [],_ :: _,_+1,h=>bR
 | _ :: _,[],_+1,h=>bR
theorem Zy {t:TypeId} {n sz:Nat} (h:Aos P t=some (n,sz)):∃ e,P.underlying t=some (.array n e)/\szOf P e=some sz:=by
 unfold Aos at h;split at h
 ·rename_i n' e hu;simp only [Cc,Cf] at h;obtain ⟨s,h1,rfl,rfl⟩:=h;exact ⟨e,hu,h1⟩
 ·simp at h
theorem Ahk {C:Cx} {t:TypeId} {x i av:AV} {vx vi:Value} (hx:VR C x vx) (hi:VR C i vi) (h:idxA P t x i=some av):Has P C (Instr.indexAt t vx vi) av:=by
 unfold idxA at h;split at h
 ·rename_i id ep off k hk;obtain ⟨ki,rfl⟩:=Ep hk hi;split at h
  ·rename_i n sz ha;split at h
   ·rename_i hlt;simp only [Ba] at h; subst h;obtain ⟨e,he,hs⟩:=Zy ha;simp only [VR] at hx;obtain ⟨b,rfl,h3,h4⟩:=hx;refine ⟨.pointer (some ⟨b,off+k*sz,none⟩),?_,?_⟩
    ·exact Ya0t
    ·simp only [VR];exact ⟨b,rfl,h3,h4⟩
   ·simp at h
  ·simp at h
 ·rename_i cs k hk;obtain ⟨ki,rfl⟩:=Ep hk hi;split at h
  ·rename_i n sz ha;split at h
   ·rename_i hlt;simp only [Ba] at h; subst h;obtain ⟨e,he,hs⟩:=Zy ha;simp only [VR] at hx;obtain ⟨b,o,vs,rfl,hl,hp⟩:=hx;refine ⟨.pointer (some ⟨b,o+k*sz,none⟩),?_,?_⟩
    ·exact Ya0t
    ·simp only [VR];exact ⟨b,_,_,rfl,R8 _ hl,Xe _ hp⟩
   ·simp at h
  ·simp at h
 ·rename_i es c k hk;obtain ⟨ki,rfl⟩:=Ep hk hi;split at h
  ·rename_i cs sz hn hs;split at h
   ·rename_i hlen;simp only [Ba] at h; subst h;simp only [VR] at hx;obtain ⟨a,len,cap,rfl,h1,h2,-,h3⟩:=hx;have hlt:=Bn hn;rcases h3 with h3|⟨b,o,sz',rfl,hr⟩
    ·subst h3; simp at hlt
    ·obtain ⟨h4,vs,hl,hp⟩:=Aed hr hn;simp only [Ij] at hs;obtain ⟨e,he,hs⟩:=hs;refine ⟨.pointer (some ⟨b,o+k*sz,none⟩),?_,?_⟩
     ·exact Ya0z
     ·simp only [VR];exact ⟨b,_,vs,rfl,by rw [<- hlen,h4]; exact hl,hp⟩
   ·simp at h
  ·simp at h
 ·rename_i id ep off len sz k hk;obtain ⟨ki,rfl⟩:=Ep hk hi;split at h
  ·rename_i hh;obtain ⟨hlt,hs⟩:=hh;simp only [Ba] at h; subst h;simp only [Ij] at hs;obtain ⟨e,he,hs⟩:=hs;simp only [VR] at hx;obtain ⟨b,a,cap,rfl,h1,h2,h3,h4⟩:=hx;rcases h2 with h2|rfl
   ·omega
   ·refine ⟨.pointer (some ⟨b,off+k*sz,none⟩),?_,?_⟩
    ·exact Ya0z
    ·simp only [VR];exact ⟨b,rfl,h3,fun e he o7=>(h4 e he o7).1⟩
  ·simp at h
 ·simp at h
theorem No {t:TypeId} {k off sz:Nat} {b:Bool} (h:A3 P t k=some (off,sz,b)):∃ fs f,P.underlying t=some (.struct fs)/\fs[k]?=some f/\f.offset=off/\szOf P f.type=some sz/\aggT P f.type=some b/\sz≠0:=by
 unfold A3 at h;split at h
 ·rename_i fs hu;split at h
  ·rename_i f hf;split at h
   ·rename_i s b' hs ha;simp only [Ba,Cf] at h;obtain ⟨rfl,rfl,rfl⟩:=h;exact ⟨fs,f,hu,hf,rfl,hs,ha,aA⟩
   ·simp at h
  ·simp at h
 ·simp at h
theorem Ahh {C:Cx} {t:TypeId} {x av:AV} {k:Nat} {vx:Value} (hx:VR C x vx) (h:fldA P t x k=some av):Has P C (Instr.fieldAt t vx k) av:=by
 unfold fldA at h;split at h
 ·rename_i off sz b cs hf;obtain ⟨fs,f,hu,hfk,h1,h2,h3,h4⟩:=No hf;simp only [Ba] at h; subst h;simp only [VR] at hx;obtain ⟨b,o,vs,rfl,hl,hp⟩:=hx;refine ⟨.pointer (some ⟨b,o+off,none⟩),?_,?_⟩
  ·exact Ya3k
  ·simp only [VR];exact ⟨b,_,_,rfl,R8 off hl,Xe off hp⟩
 ·rename_i off sz b id ep o hf;obtain ⟨fs,f,hu,hfk,h1,h2,h3,h4⟩:=No hf;simp only [Ba] at h; subst h;simp only [VR] at hx;obtain ⟨b,rfl,hn,hx⟩:=hx;refine ⟨.pointer (some ⟨b,o+off,none⟩),?_,?_⟩
  ·exact Ya3k
  ·simp only [VR];exact ⟨b,rfl,hn,hx⟩
 ·simp at h
theorem Ane {n:Nat} {cs ds:List AV} (h:takeN n cs=some ds):ds=cs.take n/\n<=cs.length:=by
 induction n generalizing cs ds with
 | zero=>simp only [takeN,Ba] at h; subst h; simp
 | succ n ih =>
  cases cs with
  | nil=>simp [takeN] at h
  | cons c cs =>
   simp only [takeN,Cc] at h;obtain ⟨ds',h1,rfl⟩:=h;obtain ⟨h2,h3⟩:=ih h1;exact ⟨by simp [h2],cG⟩
theorem Ah1 {C:Cx} {t:TypeId} {off sz:Nat} {b:Bool} {cs:List AV} {vs:Array Value} {av:AV} (hs:szOf P t=some sz) (ha:aggT P t=some b) (hx:VRs C cs vs.toList) (h:partA b sz (cs.drop off)=some av):Has P C (part t vs off) av:=by
 unfold partA at h;have hd:=Mj off hx;cases b with
 | true =>
  simp only [if_true,Cc] at h;obtain ⟨ds,h1,rfl⟩:=h;obtain ⟨h2,h3⟩:=Ko hd h1;refine ⟨.agg (vs.extract off (off+sz)),?_,?_⟩
  ·simp [part,Vr ha,E7 hs]
  ·simp only [VR];refine ⟨_,rfl,?_⟩;have:(vs.extract off (off+sz)).toList=(vs.toList.drop off).take sz:=by simp
   rw [this]; exact h2
 | false =>
  simp only [C6,if_false] at h;obtain ⟨v,h1,h2⟩:=Wk hd h;refine ⟨v,?_,h2⟩;have:vs[off]?=some v:=aW
  simp [part,Vr ha,this]
def OptR (C:Cx) (o:Option AV) (vo:Option Value):Prop:=match o,vo with|none,none=>True|some x,some v=>VR C x v|_,_=>False
theorem Kq {C:Cx} {len lim d k:Nat} {o:Option AV} {vo:Option Value} (ry:len<=lim) (hd:d<=len) (h:bound len o d=some k) (ho:OptR C o vo) :
  k<=len/\(match vo with|some v=>∀ code,(Sw v lim code).run P C.w=.ok k C.w|none=>k=d):=by
 unfold bound at h;cases o with
 | none =>
  cases vo with
  | none=>simp only [Ba] at h; subst h; exact ⟨hd,rfl⟩
  | some v=>exact ho.elim
 | some x =>
  cases vo with
  | none=>exact ho.elim
  | some v =>
   simp only [OptR] at h ho;split at h
   ·rename_i k' hk;split at h
    ·rename_i hle;simp only [Ba] at h; subst h;obtain ⟨ki,rfl⟩:=Ep hk ho;refine ⟨hle,fun code=>?_⟩;have:(0:Int)<=(k':Int)/\(k':Int)<=(lim:Int):=aA
     simp [Sw,asIntOf,this]
    ·simp at h
   ·simp at h
theorem Xd {C:Cx} {f:Operand->AV} {g:Operand->Value} (h:∀ x,VR C (f x) (g x)) (o:Option Operand):OptR C (o.map f) (o.map g):=by cases o <;> simp [OptR,h]
theorem Lj {C:Cx} {isS:Bool} {len cap h l:Nat} {lo hi mx:Option AV} {vl vh vm:Option Value} (hc:len<=cap) (hl:OptR C lo vl) (hh:OptR C hi vh) (hm:OptR C mx vm)
  (h1:bound len hi len=some h) (h2:bound h lo 0=some l) (h3:∀ m,mx=some m->hi.isSome=true/\intN m=some h) :
  l<=h/\h<=len/\∃ m,(O6 isS len cap vl vh vm).run P C.w=.ok (l,h,m) C.w/\h<=m/\m<=cap/\(mx.isSome=true->m=h)/\(mx=none->m=cap):=by
 cases hmx:mx with
 | none =>
  subst hmx;cases vm with
  | some _=>exact hm.elim
  | none =>
   obtain ⟨a1,a2⟩:=Kq (P:=P) hc (Ce _) h1 hh;obtain ⟨b1,b2⟩:=Kq (P:=P) (Ce h) (Cl _) h2 hl;refine ⟨b1,a1,cap,?_,aA,Ce _,by simp,fun _=>rfl⟩;cases vh with
   | none =>
    simp only at a2; subst a2;cases vl with
    | none=>simp only at b2; subst b2; simp [O6]
    | some v=>simp only at b2; simp [O6,b2]
   | some u =>
    simp only at a2;cases vl with
    | none=>simp only at b2; subst b2; simp [O6,a2]
    | some v=>simp only at b2; simp [O6,a2,b2]
 | some m =>
  subst hmx;cases vm with
  | none=>exact hm.elim
  | some um =>
   obtain ⟨hs,ar⟩:=h3 m rfl;obtain ⟨ki,rfl⟩:=Ep ar hm;cases hi with
   | none=>simp at hs
   | some x =>
    cases vh with
    | none=>exact hh.elim
    | some u =>
     obtain ⟨a1,-⟩:=Kq (P:=P) (C:=C) (vo:=some u) hc (Ce _) h1 hh;obtain ⟨b1,b2⟩:=Kq (P:=P) (Ce h) (Cl _) h2 hl;have hu:∀ code,(Sw u h code).run P C.w=.ok h C.w:=by
      intro code;unfold bound at h1;simp only at h1;split at h1
      ·rename_i k' hk;split at h1
       ·simp only [Ba] at h1; subst h1;obtain ⟨kj,rfl⟩:=Ep hk hh;simp [Sw,asIntOf]
       ·simp at h1
      ·simp at h1
     have hv:∀ code,(Sw (.int ki (h:Int)) cap code).run P C.w=.ok h C.w:=by
      intro code;have:(0:Int)<=(h:Int)/\(h:Int)<=(cap:Int):=aA
      simp [Sw,asIntOf,this]
     refine ⟨b1,a1,h,?_,Ce _,aA,fun _=>rfl,by simp⟩;cases vl with
     | none=>simp only at b2; subst b2; simp [O6,hu,hv]
     | some v=>simp only at b2; simp [O6,b2,hu,hv]
theorem Qp {w:World} {A:Nat->Nat->Prop} {b sz:Nat} : ∀ {es:List (List AV)} {o:Nat} (n:Nat),B4 w A b sz o es->B4 w A b sz o (es.take n)
 | [],_,n,_=>by simp [B4]
 | _ :: _,_,0,_=>by simp [B4]
 | e :: es,o,n+1,h=>by simp only [B4,Ga] at h ⊢; exact ⟨h.1,h.2.1,Qp n h.2.2⟩
theorem Wf {w:World} {A:Nat->Nat->Prop} {b sz:Nat} : ∀ {es:List (List AV)} {o:Nat} (n:Nat),B4 w A b sz o es->B4 w A b sz (o+n*sz) (es.drop n)
 | [],_,n,_=>by simp [B4]
 | es,o,0,h=>aL
 | e :: es,o,n+1,h=>by
  simp only [B4] at h;have:=Wf (o:=o+sz) n h.2.2;rw [show o+(n+1)*sz=o+sz+n*sz from by rw [I9]; omega]; exact this
theorem N4 {w:World} {A:Nat->Nat->Prop} {b sz sz':Nat} {es:List (List AV)} {o:Nat} (h:B4 w A b sz o es) (hr:Db sz' es=true) (hne:es≠[]):sz=sz':=by
 cases es with
 | nil=>exact absurd rfl hne
 | cons e es =>
  simp only [B4] at h;simp only [Db,Ox,Ch,beq_iff_eq] at hr;omega
theorem Abz {C:Cx} {t:TypeId} {x av:AV} {vx:Value} {lo hi mx:Option AV} {vl vh vm:Option Value} (hx:VR C x vx) (hl:OptR C lo vl) (hh:OptR C hi vh) (hm:OptR C mx vm)
  (h:Hy P t x lo hi mx=some av):Has P C (iS t vx vl vh vm) av:=by
 unfold Hy at h;split at h
 ·rename_i s;simp only [VR] at hx; subst hx;split at h
  ·rename_i ht;split at h
   ·rename_i h' hb;split at h
    ·rename_i l hb2;simp only [Ba] at h; subst h;obtain ⟨h1,h2,m,h3,-⟩:=Lj (P:=P) (isS:=false) (Ce _) hl hh hm hb hb2 (by simp);have e:=Je ht;refine .mk ?_;cases vm with
     | some _=>exact hm.elim
     | none=>simp [iS,Bq e,Instr.slice,h3]
    ·simp at h
   ·simp at h
  ·simp at h
 ·rename_i es c;simp only [VR] at hx;obtain ⟨a,len,cap,rfl,e1,e2,e3,e4⟩:=hx;split at h
  ·rename_i sz hsz;simp only [Ij] at hsz;obtain ⟨el,he,hs⟩:=hsz;split at h
   ·rename_i kx;split at h
    ·rename_i h' hb;have key:∀ l,bound h' lo 0=some l->(∀ m,mx=some m->hi.isSome=true/\intN m=some h')->∃ a' cap',(iS t (.slice a len cap) vl vh vm).run P C.w=.ok (.slice a' (h' - l) cap') C.w/\h' - l<=cap'/\(mx.isSome=true->cap'=h' - l) /\
       (((es.take h').drop l).length=h' - l)/\(((es.take h').drop l)=[]\/∃ b o sz,a'=some ⟨b,o,none⟩/\B4 C.w C.Avoid b sz o ((es.take h').drop l)):=by
      intro l hb2 h3;obtain ⟨g1,g2,m,g3,g4,g5,g6,g7⟩:=Lj (P:=P) (cap:=cap) (isS:=true) aA hl hh hm hb hb2 h3;refine ⟨if m=l then a else a.map (·.add (l*sz)),m - l,?_,aA,fun hs=>by rw [g6 hs],?_,?_⟩
      ·rw [e1] at g3;simp [iS,Bq (D3 he),Instr.slice,g3,E7 hs]
      ·rw [List.length_drop,I1]; omega
      ·by_cases rt:l<h'
       ·rcases e4 with e4|⟨b,o,sz',rfl,hr⟩
        ·subst e4; simp
        ·right;have hne:es≠[]:=by intro e; subst e; simp at g2; omega
         have:sz'=sz:=N4 hr kx hne;subst this;refine ⟨b,o+l*sz',sz',?_,Wf l (Qp h' hr)⟩;rw [if_neg aA]; simp [Dz]
       ·left;apply F2;rw [List.length_drop,I1]; omega
     split at h
     ·rename_i l hb2;simp only [Ba] at h; subst h;obtain ⟨a',cap',k1,k2,k3,k4,k5⟩:=key l hb2 (by simp);exact ⟨_,k1,by simp only [VR]; exact ⟨a',_,cap',rfl,k4,k2,trivial,k5⟩⟩
     ·rename_i l m hb2;split at h
      ·rename_i hc;simp only [Ba] at h; subst h;obtain ⟨a',cap',k1,k2,k3,k4,k5⟩:=key l hb2 Za1n;exact ⟨_,k1,by simp only [VR]; exact ⟨a',_,cap',rfl,k4,k2,k3 rfl,k5⟩⟩
      ·simp at h
     ·simp at h
    ·simp at h
   ·simp at h
  ·simp at h
 ·rename_i id ep off len sz;simp only [VR] at hx;obtain ⟨b,a,cap,rfl,e1,e2,e3,e4⟩:=hx;split at h
  ·rename_i hsz;simp only [Ij] at hsz;obtain ⟨el,he,hs⟩:=hsz;split at h
   ·rename_i h' hb;have key:∀ l,bound h' lo 0=some l->(∀ m,mx=some m->hi.isSome=true/\intN m=some h')->Has P C (iS t (.slice a len cap) vl vh vm) (.sref id ep (off+l*sz) (h' - l) sz):=by
     intro l hb2 h3;obtain ⟨g1,g2,m,g3,g4,g5,g6,g7⟩:=Lj (P:=P) (cap:=cap) (isS:=true) aA hl hh hm hb hb2 h3;refine ⟨.slice (if m=l then a else a.map (·.add (l*sz))) (h' - l) (m - l),?_,?_⟩
     ·simp [iS,Bq (D3 he),Instr.slice,g3,E7 hs]
     ·simp only [VR];refine ⟨b,_,_,rfl,aA,?_,e3,fun e he o7=>?_⟩;rotate_left
      ·obtain ⟨q1,cs,t',q2,q3⟩:=e4 e he o7;refine ⟨q1,cs,t',q2,?_⟩;have:l*sz+(m - l)*sz<=cap*sz:=by rw [<- Sx]; exact F6 _ aA
       omega
      by_cases rt:l<h'
      ·right;rw [if_neg aA];rcases e2 with e2|rfl
       ·omega
       ·simp [Dz]
      ·left; omega
    split at h
    ·rename_i l hb2;simp only [Ba] at h; subst h;exact key l hb2 (by simp)
    ·rename_i l m hb2;split at h
     ·rename_i hc;simp only [Ba] at h; subst h;exact key l hb2 Za1n
     ·simp at h
    ·simp at h
   ·simp at h
  ·simp at h
 ·simp at h
/- values laid into cells -/
def puts:List AV->Nat->List AV->List AV
 | cs,_,[]=>cs
 | cs,o,v :: vs=>puts (put cs o v) (o+1) vs
def sets:List Value->Nat->List Value->List Value
 | l,_,[]=>l
 | l,o,v :: vs=>sets (l.set o v) (o+1) vs
theorem Lx (c:AV):∀ (vs cs:List AV) (o:Nat),puts (c :: cs) (o+1) vs=c :: puts cs o vs
 | [],_,_=>rfl
 | v :: vs,cs,o=>by simp only [puts,put]; exact Lx c vs (put cs o v) (o+1)
theorem Kg:∀ {cs:List AV} {o:Nat} {vs cs':List AV},over cs o vs=some cs'->cs'=puts cs o vs/\o+vs.length<=cs.length
 | cs,0,[],cs',h=>by simp only [over,Ba] at h; subst h; simp [puts]
 | c :: cs,k+1,vs,cs',h=>by
  simp only [over,Cc] at h;obtain ⟨l,h1,rfl⟩:=h;obtain ⟨h2,h3⟩:=Kg h1;exact ⟨by rw [Lx,h2],aC⟩
 | _ :: cs,0,v :: vs,cs',h=>by
  simp only [over,Cc] at h;obtain ⟨l,h1,rfl⟩:=h;obtain ⟨h2,h3⟩:=Kg h1;exact ⟨by simp only [puts,put]; rw [Lx,h2],by simp at h3 ⊢; omega⟩
 | [],0,_ :: _,_,h=>fT
 | [],_+1,_,_,h=>fT
theorem Mk {C:Cx} : ∀ {us vs:List _} {cs:List AV} {l:List Value} {o:Nat},VRs C cs l->VRs C vs us->VRs C (puts cs o vs) (sets l o us)
 | [],[],_,_,_,h,_=>h
 | u :: us,v :: vs,cs,l,o,h,hv=>by
  simp only [VRs] at hv;simp only [puts,sets];exact Mk (Acj o h hv.1) hv.2
 | [],_ :: _,_,_,_,_,h=>aU
 | _ :: _,[],_,_,_,_,h=>aU
theorem Tq (off:Nat):∀ (us:List Value) (k:Nat) (cells:Array Value),((us.zipIdx k).foldl (fun (cs:Array Value) (x:Value × Nat)=>cs.setIfInBounds (off+x.2) x.1) cells).toList=sets cells.toList (off+k) us
 | [],_,_=>rfl
 | u :: us,k,cells=>by
  simp only [List.zipIdx_cons,Sn,sets];rw [Tq off us (k+1)];simp [Oy]
theorem G6 {C:Cx} {x:AV} {v:Value} {cs:List AV} (h:cellsOf x=some cs) (hx:VR C x v):VRs C cs v.cells.toList:=by
 unfold cellsOf at h;split at h
 ·simp only [Ba] at h; subst h;simp only [VR] at hx;obtain ⟨vs,rfl,h⟩:=hx;exact h
 ·simp at h
 ·simp at h
 ·simp at h
 ·simp at h
 ·rename_i n1 n2 n3 n4 n5;simp only [Ba] at h; subst h;have:v.cells=#[v]:=by
   cases v with
   | agg cs =>
    exfalso;cases x with
    | prim v=>simp only [VR] at hx; subst hx; exact n4 _ rfl
    | agg _=>exact n1 _ rfl
    | bot=>exact n3 rfl
    | tup _=>exact n2 _ rfl
    | frz _ _=>simp only [VR] at hx; obtain ⟨_,_,_,e,-⟩:=hx; cases e
    | fptr _=>simp only [VR] at hx; obtain ⟨_,_,_,e,-⟩:=hx; cases e
    | ref _ _ _=>simp only [VR] at hx; obtain ⟨_,e,-⟩:=hx; cases e
    | sref _ _ _ _ _=>simp only [VR] at hx; obtain ⟨_,_,_,e,-⟩:=hx; cases e
    | fn _ _=>simp only [VR] at hx; obtain ⟨_,e,-⟩:=hx; cases e
    | bfn _ _=>simp only [VR] at hx; obtain ⟨_,e,-⟩:=hx; cases e
    | ifc _ _=>simp only [VR] at hx; obtain ⟨_,e,-⟩:=hx; cases e
    | mfn _ _ _=>simp only [VR] at hx; obtain ⟨_,e,-⟩:=hx; cases e
    | lit _ _=>simp only [VR] at hx; obtain ⟨_,_,e,-⟩:=hx; cases e
   | _=>rfl
  rw [this];simp only [VRs];exact ⟨hx,trivial⟩
theorem Af {α:Type} : ∀ {l:List α} {k:Nat},nth l k=l[k]?
 | [],k=>by simp [nth]
 | _ :: _,0=>rfl
 | _ :: l,k+1=>by simp only [nth]; rw [Af (l:=l)]; simp
theorem Ws {C:Cx} {pl:List (Nat × Nat)} {place:Nat->Option (Nat × Nat)} (hp:∀ i,place i=nth pl i):∀ {ps:List (Nat × AV)} {us:List (Nat × Value)} {cs ds:List AV} {cells:Array Value},fillA pl cs ps=some ds->VRs C cs cells.toList ->
  ps.length=us.length->(∀ (k i:Nat) (x:AV) (j:Nat) (u:Value),ps[k]?=some (i,x)->us[k]?=some (j,u)->i=j/\VR C x u)->∃ out,Si place cells us=some out/\VRs C ds out.toList/\out.size=cells.size
 | [],[],cs,ds,cells,h,hc,_,_=>by simp only [fillA,Ba] at h; subst h; exact ⟨cells,rfl,hc,rfl⟩
 | (i,x) :: ps,(j,u) :: us,cs,ds,cells,h,hc,hlen,bj=>by
  simp only [fillA] at h;split at h
  ·rename_i off sz vs hn ig;split at h
   ·rename_i hl;split at h
    ·rename_i cs' ho;obtain ⟨rfl,hxu⟩:=bj 0 i x j u rfl rfl;have hv:=G6 ig hxu;obtain ⟨h1,h2⟩:=Kg ho;have e1:u.cells.size=sz:=by have:=Bb hv; simp at this; omega
     have e2:off+u.cells.size<=cells.size:=by have:=Bb hc; simp at this; omega
     have ew:VRs C cs' (u.cells.zipIdx.foldl (fun cs (x:Value × Nat)=>cs.setIfInBounds (off+x.2) x.1) cells).toList:=by
      rw [<- kS,kN,Tq off u.cells.toList 0 cells,h1];exact Mk hc hv
     obtain ⟨out,k1,k2,k3⟩:=Ws hp h ew (by simpa using hlen) (fun k i' x' j' u' a b=>bj (k+1) i' x' j' u' (by simpa using a) (by simpa using b));refine ⟨out,?_,k2,?_⟩
     ·have a4e:¬ (u.cells.size≠sz\/off+u.cells.size > cells.size):=by rintro (h|h) <;> omega
      have:Si place cells ((i,u) :: us)=Si place (u.cells.zipIdx.foldl (fun cs (x:Value × Nat)=>cs.setIfInBounds (off+x.2) x.1) cells) us:=by
       simp [Si,hp,hn,e1];omega
      rw [this]; exact k1
     ·rw [k3];have:=Bb ew;have:=Bb hc;have:cs'.length=cs.length:=by
       rw [h1]; clear h1 ho hl ig h2 hv ew bj hlen h;have:∀ (vs cs:List AV) (o:Nat),(puts cs o vs).length=cs.length:=by
        intro vs;induction vs with
        | nil=>intro _ _; rfl
        | cons v vs ih =>
         intro cs o;simp only [puts];rw [ih];have:∀ (cs:List AV) (o:Nat) (v:AV),(put cs o v).length=cs.length:=by
          intro cs;induction cs with
          | nil=>intro _ _; rfl
          | cons c cs ih=>intro o v; cases o <;> simp [put,ih]
         rw [this]
       exact this vs cs off
      simp at *;omega
    ·simp at h
   ·simp at h
  ·simp at h
 | [],_ :: _,_,_,_,_,_,hl,_=>dW
 | _ :: _,[],_,_,_,_,_,hl,_=>dW
end
end
end Go.Proofs.YthelkgdmgihhiaaGreat
