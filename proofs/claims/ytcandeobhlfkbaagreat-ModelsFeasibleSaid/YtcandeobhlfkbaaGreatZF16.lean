/- Part 16. -/
import Derived.Test.YtcandeobhlfkbaaGreatZF15
import Derived.OrdersIn
import Derived.TacticsIn
open Array renaming getElem?_eq_some_iff->Cj,getElem?_eq_getElem->Cy,length_toList->Ih,getD->Ip
open Bool renaming and_eq_true->Ch
open Classical renaming byContradiction->Pn
open Go.Code renaming region->So
open Go.Region renaming wanted->F5
open Go.RowKit.Below renaming refl->C5
open Int renaming natAbs_mul->Ie
open List renaming all_eq_true->Cv,range->De,mem_map->F9,getElem?_take->Iu,getElem?_drop->Sq,length_drop->gQ
open Nat renaming le_refl->Cc,le_trans->Fb,zero_add->Fg,lt_or_ge->F3,mul_one->Ib,mul_le_mul_right->Ic,sub_self->I4,add_zero->M9,mul_le_mul->Ov,strongRecOn->Oy,mul_comm->O1,div_lt_iff_lt_mul->O8,add_mul->Sg,mod_eq_of_lt->Sk,pow_succ->Ss,mod_lt->gT,add_assoc->gY,div_add_mod->iG
open Ne renaming symm->Oo
open Rat renaming intCast_mul->Em,intCast_neg->Oz,intCast_add->Sy,mul_nonneg->V9,le_refl->Yo,intCast_inj->iH
namespace Go.Proofs.YtcandeobhlfkbaaGreat.Iv
open Go Go.RowKit
section
variable {P:Program} {ops:Array Oper} {a0:Act} {R1 R2:World->Prop} {S:World->World->Prop} {Φ:Nat->World->Value->Prop} {m s n0:Nat}
theorem Afd {A:Prop} {o:Oper} {w:World} {a:Act} (h:A):(∀ f,o.about P w a.eval=some f->Fence.wide.fn f)/\A:=⟨fun _ _=>trivial,h⟩
theorem Pb {o:Oper} {a a':Act} {w:World} {K:Act->World->Prop} {Q:Exit->Act->World->Prop} (he:execOp a'.eval o=execOp a.eval o)
  (h:Oper.gives P o a w fun v w'=>K (a'.put o.dst v) w'):o.wpIn Fence.wide n0 P a' w K Q:=by
 unfold Oper.gives at h;unfold Oper.wpIn;refine ⟨fun _ _=>trivial,?_⟩;have e:o.semAt Fence.wide.round a'.eval=execOp a.eval o:=he;rw [e];generalize (execOp a.eval o).run P w=r at *;cases r with
 | ok n w' =>
  cases n <;> (try unfold Oper.uponIn) <;> dsimp only at h ⊢;case value v=>exact h
  case skip=>exact h
  case enter f args=>exact ⟨fun h0=>absurd h0 aH,CallsIn.mono (callsIn_wide.2 h) fun e w'' he=>by cases e <;> first|exact he|exact False.elim he⟩
  case row row args=>exact ⟨fun h0=>absurd h0 aH,fun c cs _=>let ⟨v,w'',r,s⟩:=h c cs; ⟨v,w'',r,stepsIn_wide.2 s⟩⟩
 | halt x w'=>exact False.elim h
theorem U7 (ag:Dr ops a0.tmps.size m=true) {Q:Exit->Act->World->Prop} : ∀ (fuel k:Nat) (listed:Array Bool) (a:Act) (w:World),ops.size - k<=fuel->m<=k->listed.size=ops.size ->
  (∀ j,listed.getD j false=true↔j<k)->k<=ops.size->wpOpsIn Fence.wide n0 P ops Q (List.range' k (ops.size - k)) a w->wpAnyIn Fence.wide n0 P .any ops Q fuel listed a w:=by
 intro fuel;have closed:∀ (k:Nat) (listed:Array Bool),(∀ j,listed.getD j false=true↔j<k)->k<=ops.size->∀ j,listed.getD j false=true->∀ e ∈ depsOf ops j,listed.getD e false=true:=by
  intro k listed hk l7 j hj e he;exact Yay
 have rdy:∀ (k:Nat) (listed:Array Bool),(∀ j,listed.getD j false=true↔j<k)->k<=ops.size->m<=k->listed.size=ops.size->∀ i ∈ Region.ready .any ops listed,i=k:=by
  intro k listed hk l7 hm hl i hi;exact Yav
 induction fuel with
 | zero =>
  intro k listed a w hf hm hl hk l7 h;exact Ya01
 | succ fuel ih =>
  intro k listed a w hf hm hl hk l7 h;refine ⟨fun h0=>?_,fun i hi=>?_⟩
  ·exact Ya7
  ·have nq:=rdy k listed hk l7 hm hl i hi;subst nq;obtain ⟨_,o,ho,_⟩:=B2 hi;have hlt:=(Cj.1 ho).1;have e:ops.size - i=(ops.size - (i+1))+1:=aA
   rw [e,List.range'_succ,wpOpsIn_cons] at h;refine wpOpIn_mono (fun a w h=>ih (i+1) _ a w aA aA bP (fun j=>?_) aA h) h;exact Ya1e
theorem Qb {Q:Exit->Act->World->Prop} {a:Act} {w:World} {k:Nat} (h:wpListIn Fence.wide n0 P ops Q (ops.toList.drop k) a w):wpOpsIn Fence.wide n0 P ops Q (List.range' k (ops.size - k)) a w:=by
 have e:=wpOpsIn_eq_wpListIn (F:=Fence.wide) (n:=n0) (P:=P) (ops:=ops) (Q:=Q) (ops.toList.drop k) k (fun j=>by rw [Sq]; simp);rw [gQ,Ih] at e;rw [e]; exact h
theorem Uj {id:Nat} {Q:Exit->Act->World->Prop} {w:World} (s:Nat) (n:Nat) (hm:P.follows .mixedOrders=true) (hsz:ops.size=n) (hmn:m<=n) (ag:Dr ops a0.tmps.size m=true)
  (h0:R1 w.drew) (h12:∀ w,R1 w->R2 w) (cj:∀ w w',R1 w->S w w'->R1 w') (a7:∀ w w',R2 w->S w w'->R2 w') (a1k:∀ j w w' v,S w w'->Φ j w v->Φ j w' v)
  (hop:∀ i,i<m->i≠s->∀ o,ops[i]?=some o->∀ (f:Nat->Value) (w':World),R2 w'->(∀ j ∈ depsOf ops i,Φ j w' (f j)) ->
   (if F5 o (yielded ops (B1 ops a0 f (depsOf ops i)).tmps) then Oper.gives P o (B1 ops a0 f (depsOf ops i)) w' (fun v w''=>S w' w''/\Φ i w'' v) else Φ i w' undef))
  (pf:s<m->∀ o,ops[s]?=some o->∀ (f:Nat->Value) (w':World),R1 w'->(∀ j ∈ depsOf ops s,Φ j w' (f j)) ->
   (if F5 o (yielded ops (B1 ops a0 f (depsOf ops s)).tmps) then Oper.gives P o (B1 ops a0 f (depsOf ops s)) w' (fun v w''=>R2 w''/\Φ s w'' v/\∀ j u,j≠s->Φ j w' u->Φ j w'' u) else Φ s w' undef))
  (hend:∀ (f:Nat->Value) (w':World),R2 w'->(∀ j,j<m->Φ j w' (f j))->wpListIn Fence.wide n0 P ops Q (ops.toList.drop m) (B1 ops a0 f (De m)) w') :
  (So id ops true).wpIn Fence.wide n0 P Q a0 w:=by
 apply wpIn_region_any hm;have main:∀ (fuel:Nat) (listed:Array Bool) (f:Nat->Value) (a:Act) (w':World),A5 listed ops.size<=fuel->(∀ j,m<=j->listed.getD j false=false)->Sofar ops a0 R1 R2 s Φ listed f a w' ->
   wpAnyIn Fence.wide n0 P .any ops Q fuel listed a w':=by
  intro fuel;induction fuel with
  | zero =>
   intro listed f a w' hc ht h;have aw:∀ j,j<ops.size->listed.getD j false=true:=by
    intro j hj;exact Ya3m
   have hms:m=ops.size:=by
    rcases F3 m ops.size with hlt|f9
    ·have h1:=aw m hlt; rw [ht m (Cc _)] at h1; simp at h1
    ·omega
   have hk:∀ j,listed.getD j false=true↔j<m:=by
    intro j;constructor
    ·intro hj;exact Ya2q
    ·intro hj; exact aw j aA
   have e:=h.full ag hk;refine U7 ag 0 m listed a w' aA (Cc _) h.len hk aA (Qb ?_);rw [e];exact hend f w' h.two fun j hj=>h.holds j ((hk j).2 hj)
  | succ fuel ih =>
   intro listed f a w' hc ht h;have stepTail:(∀ j,j<m->listed.getD j false=true)->wpAnyIn Fence.wide n0 P .any ops Q (fuel+1) listed a w':=by
    intro aw;have hk:∀ j,listed.getD j false=true↔j<m:=by
     intro j;constructor
     ·intro hj;exact Ya2q
     ·intro hj; exact aw j hj
    have e:=h.full ag hk;have a0e:ops.size - m<=A5 listed ops.size:=by
     unfold A5;have:De ops.size=De m++List.range' m (ops.size - m):=by
      have h1:=@List.range'_append_1 0 m (ops.size - m);rw [Fg,show m+(ops.size - m)=ops.size from by omega] at h1;rw [List.range_eq_range',List.range_eq_range',h1]
     rw [this,List.countP_append];have:(List.range' m (ops.size - m)).countP (fun j=>decide (listed.getD j false=false))=(List.range' m (ops.size - m)).length:=by
      rw [List.countP_eq_length];intro j hj;rw [List.mem_range'_1] at hj;simp only [decide_eq_true_eq];exact ht j hj.1
     rw [this,List.length_range'];omega
    refine U7 ag (fuel+1) m listed a w' aA (Cc _) h.len hk aA (Qb ?_);rw [e];exact hend f w' h.two fun j hj=>h.holds j ((hk j).2 hj)
   by_cases aw:∀ j,j<m->listed.getD j false=true
   ·exact stepTail aw
   ·have a1l:∀ i ∈ Region.ready .any ops listed,i<m:=by
     intro i hi;rcases F3 i m with hlt|f9
     ·exact hlt
     ·exact absurd (fun j hj=>Ps ag h.closed hi f9 j aA) aw
    refine ⟨fun h0=>?_,fun i hi=>?_⟩
    ·exfalso;apply aw;intro j;induction j using Oy with
     | _ j ihj =>
      intro hj;cases hl:listed.getD j false with
      | true=>rfl
      | false =>
       exfalso;have hjs:j<ops.size:=aA
       have ho:ops[j]?=some (ops[j]'hjs):=Cy hjs;have:j ∈ Region.ready .any ops listed:=by
        apply mem_ready.2;refine ⟨?_,_,ho,fun e he hb=>?_⟩
        ·have fu:j<listed.size:=by rw [h.len]; exact hjs
         simpa [Ip,fu] using hl
        ·have hf:=Mm ag ho;unfold Nx at hf;simp only [Ch] at hf;have da:e.on ∈ depsOf ops j:=by
          exact Yap
         have:=Cv.1 hf.1.1.1.2 _ da;simp only [decide_eq_true_eq] at this;exact ihj _ this aA
       rw [h0] at this; simp at this
    ·obtain ⟨h0,o,ho,hd⟩:=B2 hi;have io:=Dd h0;have zh:=a1l i hi;have hlt:=(Cj.1 ho).1;obtain ⟨he,hw⟩:=h.eval ag ho io hd;have a1h:=Lk hlt h.len io;by_cases his:i=s
     ·subst his;have hg:=pf zh o ho f w' (h.one io) fun j hj=>h.holds j (hd j hj);unfold wpOpIn;simp only [ho];rw [hw];by_cases za:F5 o (yielded ops (B1 ops a0 f (depsOf ops i)).tmps)=true
      ·rw [if_pos za] at hg ⊢;exact (Pb he (Vj hg fun v w'' ⟨hr,hv,hp⟩=>ih _ _ _ _ aA (fun j hj=>fM) (h.next ag ho hd (fun x=>absurd rfl x) hr hp hv)))
      ·rw [if_neg za] at hg ⊢;exact Afd (ih _ _ _ _ aA (fun j hj=>fM) (h.next ag ho hd (fun x=>absurd rfl x) h.two (fun _ _ _ x=>x) hg))
     ·have hg:=hop i zh his o ho f w' h.two fun j hj=>h.holds j (hd j hj);unfold wpOpIn;simp only [ho];rw [hw];by_cases za:F5 o (yielded ops (B1 ops a0 f (depsOf ops i)).tmps)=true
      ·rw [if_pos za] at hg ⊢;exact (Pb he (Vj hg fun v w'' ⟨hr,hv⟩=>ih _ _ _ _ aA (fun j hj=>fM)
        (h.next ag ho hd (fun _ hl=>cj _ _ (h.one hl) hr) (a7 _ _ h.two hr) (fun j u _ x=>a1k j _ _ u hr x) hv)))
      ·rw [if_neg za] at hg ⊢;exact Afd (ih _ _ _ _ aA (fun j hj=>fM) (h.next ag ho hd (fun _ hl=>h.one hl) h.two (fun _ _ _ x=>x) hg))
 refine main ops.size _ (fun _=>undef) a0 w.drew ?_ ?_ ⟨by simp,rfl,rfl,?_,fun _ _=>rfl,?_,fun _=>h0,h12 _ h0,?_⟩
 ·unfold A5;exact Fb List.countP_le_length (by simp)
 ·intro j _; simp [Ip]
 ·intro j d hj;exact Ya38
 ·intro j hj;exact Ya38
 ·intro j hj;exact Ya38
theorem wpIn_region_ext {id:Nat} {Q:Exit->Act->World->Prop} {w:World} (ds:List (Option Tmp)) (n m:Nat) (Ks:List Know) (hm:P.follows .mixedOrders=true) (hds:ops.toList.map (·.dst)=ds) (hsz:ops.size=n) (hmn:m<=n)
  (ag:Dr ops a0.tmps.size m=true)
  (hop:Uw (Acy P ds a0 (Ext w) Ks n) 0 (ops.toList.take m))
  (hend:∀ (f:Nat->Value) (w':World),Ext w w'->KnowAll Ks f w' (De m)->wpListIn Fence.wide n0 P ops Q (ops.toList.drop m) (putD ds a0 f (De m)) w') :
  (So id ops true).wpIn Fence.wide n0 P Q a0 w:=by
 refine Uj (R1:=Ext w) (R2:=Ext w) (S:=Ext) (Φ:=phi Ks) (m:=m) n n hm hsz hmn ag ((C5 _ _).drew) (fun _ h=>h) (fun _ _ h k=>h.trans k) (fun _ _ h k=>h.trans k) (Anl Ks) ?_ ?_ ?_
 ·intro i hi hne o ho f w' hr hd;have hg:=Yr (k:=i) hop (by rw [Iu,if_pos hi]; simpa using ho);rw [Fg] at hg;rw [Air ho] at hd ⊢;rw [Akl hds,Aob hds];rcases hg hne f w' hr (Mo.1 hd) with ⟨h1,h2⟩|⟨h1,h2⟩
  ·rw [if_pos h1]; exact h2
  ·rw [if_neg (by rw [h1]; decide)]; exact h2
 ·intro h; omega
 ·intro f w' hr hd;rw [Akl hds];exact hend f w' hr (Mo.1 fun j hj=>hd j aW)
theorem opGoal_skip {ds:List (Option Tmp)} {R:World->Prop} {Ks:List Know} {s i:Nat} {o:Oper}
  (h:∀ (f:Nat->Value) (w':World),R w'->KnowAll Ks f w' (depsO o)->wantD ds o (putD ds a0 f (depsO o)).tmps=false/\phi Ks i w' undef):Acy P ds a0 R Ks s i o :=
 fun _ f w' hr hk=>.inr (h f w' hr hk)
end
end Go.Proofs.YtcandeobhlfkbaaGreat.Iv
namespace Go.Proofs.YtcandeobhlfkbaaGreat
open Go
section
variable {P:Program}
@[reducible] def Ext.sub (E:Ext P) (c0:B8):Ext P:={ on:=E.on,mv:=E.mv,call:=c0 }
theorem Kx [Globs] (E:Ext P) {c0:B8} {call:B8} {ok:St->List Oper->Bool} {n:Nat} : ∀ (c:Code) (st:St),@evC _ P (Ext.sub E c0) call ok n c st=@evC _ P E call ok n c st
 | .skip,_=>bH
 | .region _ ops draw,st=>by simp only [evC]; rfl
 | .seq a b,st=>by
  simp only [evC,Kx E a];split <;> first|exact Kx E b _|rfl
 | .cond c a b,st=>by simp only [evC,Kx E a,Kx E b]
 | .block _ c,st=>by simp only [evC,Kx E c]
 | .loop c,st=>by
  simp only [evC];congr 1;funext s;exact Kx E c s
 | .exit _,_=>bH
 | .ret,_=>bH
 | .scope c,st=>by simp only [evC]; exact Kx E c st
 | .label _,_=>bH
 | .goto _,_=>bH
 | .rangeFunc _ _ _ _,_=>bH
 | .refuse _,_=>bH
theorem Aiy [Globs] (E:Ext P) {c0:B8} (h0:CLe c0 E.call) {ok:St->List Oper->Bool} : ∀ k,CLe (@evF _ P (Ext.sub E c0) ok k) (@evF _ P E ok k)
 | 0=>Za1j
 | k+1=>by
  have ih:=Aiy E h0 (ok:=ok) k;intro f args S tk n r he;simp only [evF] at he ⊢;split at he
  ·rename_i mg;rw [if_pos (show @Ext.on P E f=true from mg)];exact h0 _ _ _ _ _ _ he
  rename_i mg;rw [if_neg (show ¬ @Ext.on P E f=true from mg)];split at he
  ·rename_i fn hf;split at he
   ·rename_i c hb;split at he
    ·simp at he
    ·rename_i ao;rw [if_neg ao];have out:∀ {st0:St} {r0:AV × St},outA P fn (@evC _ P (Ext.sub E c0) (@evF _ P (Ext.sub E c0) ok k) ok k c st0)=some r0->outA P fn (@evC _ P E (@evF _ P E ok k) ok k c st0)=some r0:=by
      intro st0 r0 h;rw [Kx E] at h;exact Jo (fun z hz=>Dc ih (Cc _) c _ z hz) h
     split at he
     ·exact Ya3s
     rename_i ni;rw [if_neg (show ¬ @Ext.mv P E f=true from ni)];split at he
     ·rename_i hp;rw [if_pos hp];have one:∀ {xs0:List AV} {r0:AV},@runP _ P (Ext.sub E c0) ok (@evF _ P (Ext.sub E c0) ok k) k fn c xs0=some r0->@runP _ P E ok (@evF _ P E ok k) k fn c xs0=some r0:=by
       intro xs0 r0 hrun;exact Ya21
      exact Yaj
     ·rename_i hp;rw [if_neg hp];exact Ya0d
   ·simp at he
  ·simp at he
theorem An6 [Globs] {E:Ext P} {c0:B8} (h0:CLe c0 E.call) {f:FuncId} {args:List AV} {S:List Ent} {tk:List Nat} {n:Nat} {r:AV × List Ent × List Nat × Nat} (h:@cL _ P (Ext.sub E c0) f args S tk n=some r):@cL _ P E f args S tk n=some r:=by
 obtain ⟨k,hk⟩:=(@H6 P _ (Ext.sub E c0) _ _ _ _ _ _).1 h;exact (@H6 P _ E _ _ _ _ _ _).2 ⟨k,Aiy E h0 k _ _ _ _ _ _ hk⟩
end
end Go.Proofs.YtcandeobhlfkbaaGreat
namespace Go.Proofs.YtcandeobhlfkbaaGreat.Simp
def sum:Nat->(Nat->Rat)->Rat
 | 0,_=>0
 | n+1,f=>sum n f+f n
theorem sum_congr {f g:Nat->Rat} : ∀ {n:Nat},(∀ j,j<n->f j=g j)->sum n f=sum n g
 | 0,_=>rfl
 | n+1,h=>by rw [sum,sum,sum_congr fun j hj=>h j aA,h n aA]
theorem sum_zero {f:Nat->Rat} {n:Nat} (h:∀ j,j<n->f j=0):sum n f=0:=by
 induction n with
 | zero=>rfl
 | succ n ih=>rw [sum,ih fun j hj=>h j aA,h n aA]; grind
theorem sum_add (f g:Nat->Rat):∀ n,sum n (fun j=>f j+g j)=sum n f+sum n g
 | 0=>dI
 | n+1=>by simp only [sum,sum_add f g n]; grind
theorem Ji (a:Rat) (f:Nat->Rat):∀ n,sum n (fun j=>a*f j)=a*sum n f
 | 0=>dI
 | n+1=>by simp only [sum,Ji a f n]; grind
theorem Acp (f g:Nat->Rat):∀ n,sum n (fun j=>f j - g j)=sum n f - sum n g
 | 0=>dI
 | n+1=>by simp only [sum,Acp f g n]; grind
theorem Qv (f:Nat->Nat->Rat) (m:Nat):∀ n,sum n (fun j=>sum m fun k=>f j k)=sum m fun k=>sum n fun j=>f j k
 | 0=>by simp only [sum]; exact (sum_zero fun _ _=>rfl).symm
 | n+1=>by simp only [sum,Qv f m n,sum_add]
theorem sum_one {f:Nat->Rat} {s:Nat} : ∀ {n:Nat},s<n->sum n (fun j=>if j=s then f j else 0)=f s
 | 0,h=>aA
 | n+1,h=>by
  rw [sum];by_cases e:n=s
  ·subst e;rw [if_pos rfl,sum_zero fun j hj=>if_neg aA]; grind
  ·rw [if_neg e,sum_one aA]; grind
theorem sum_nonneg {f:Nat->Rat} : ∀ {n:Nat},(∀ j,j<n->0<=f j)->0<=sum n f
 | 0,_=>dI
 | n+1,h=>by
  have h1:=sum_nonneg (f:=f) (n:=n) fun j hj=>h j aA;have h2:=h n aA;rw [sum]; grind
theorem Qa {f:Nat->Rat} : ∀ {n:Nat},0<sum n f->∃ j,j<n/\0<f j
 | 0,h=>by simp only [sum] at h; grind
 | n+1,h=>by
  rw [sum] at h;by_cases h1:0<f n
  ·exact ⟨n,aA,h1⟩
  ·have h2:0<sum n f:=aM
   obtain ⟨j,hj,h3⟩:=Qa h2;exact ⟨j,aA,h3⟩
structure Tab where
 T:Nat->Nat->Rat
 c:Nat->Rat
 B:Nat->Nat
def dot (N:Nat) (a x:Nat->Rat):Rat:=sum (N+1) fun j=>a j*x j
def Ker (m N:Nat) (t:Tab) (x:Nat->Rat):Prop:=∀ i,i<m->dot N (t.T i) x=0
def pivT (t:Tab) (r s:Nat) (i j:Nat):Rat:=if i=r then t.T r j / t.T r s else t.T i j - t.T i s*(t.T r j / t.T r s)
def piv (t:Tab) (r s:Nat):Tab:=⟨pivT t r s,fun j=>t.c j - t.c s*(t.T r j / t.T r s),fun i=>if i=r then s else t.B i⟩
theorem Adp (N:Nat) (a:Rat) (f x:Nat->Rat):dot N (fun j=>a*f j) x=a*dot N f x:=by
 unfold dot;rw [<- Ji];exact Ya3l
theorem Apu (N:Nat) (f g x:Nat->Rat):dot N (fun j=>f j - g j) x=dot N f x - dot N g x:=by
 unfold dot;rw [<- Acp];exact Ya3l
theorem Aiu (N:Nat) (a:Rat) (f x:Nat->Rat):dot N (fun j=>f j / a) x=dot N f x / a:=by
 have h:=Adp N a⁻¹ f x;have e1:(fun j=>a⁻¹*f j)=fun j=>f j / a:=by funext j; grind
 rw [e1] at h;rw [h]; grind
theorem Ado (N:Nat) (a:Rat) (p:Rat) (f g x:Nat->Rat):dot N (fun j=>f j - a*(g j / p)) x=dot N f x - a*(dot N g x / p):=by
 rw [Apu,Adp N a (fun j=>g j / p) x,Aiu]
theorem Ab9 (t:Tab) (r s:Nat) (N:Nat) (x:Nat->Rat) (i:Nat):dot N ((piv t r s).T i) x=if i=r then dot N (t.T r) x / t.T r s else dot N (t.T i) x - t.T i s*(dot N (t.T r) x / t.T r s):=by
 by_cases h:i=r
 ·subst h;rw [if_pos rfl];have e:(piv t i s).T i=fun j=>t.T i j / t.T i s:=by funext j; simp [piv,pivT]
  rw [e,Aiu]
 ·rw [if_neg h];have e:(piv t r s).T i=fun j=>t.T i j - t.T i s*(t.T r j / t.T r s):=by funext j; simp [piv,pivT,h]
  rw [e,Ado]
theorem piv_ker {m N:Nat} {t:Tab} {r s:Nat} (hr:r<m) (hp:t.T r s≠0) (x:Nat->Rat):Ker m N (piv t r s) x↔Ker m N t x:=by
 constructor
 ·intro h;have h0:=h r hr;rw [Ab9,if_pos rfl] at h0;have bw:dot N (t.T r) x=0:=by
   have:dot N (t.T r) x=dot N (t.T r) x / t.T r s*t.T r s:=aM
   rw [this,h0]; grind
  intro i hi;have h1:=h i hi;rw [Ab9] at h1;by_cases e:i=r
  ·subst e; exact bw
  ·rw [if_neg e,bw] at h1; grind
 ·intro h i hi;rw [Ab9,h r hr,h i hi];split <;> grind
theorem piv_cost {m N:Nat} {t:Tab} {r s:Nat} (hr:r<m) {x:Nat->Rat} (hx:Ker m N t x):dot N (piv t r s).c x=dot N t.c x:=by
 show dot N (fun j=>t.c j - t.c s*(t.T r j / t.T r s)) x=_;rw [Ado,hx r hr]; grind
structure Fit (m N:Nat) (t:Tab):Prop where
 lt:∀ i,i<m->t.B i<N
 unit:∀ i k,i<m->k<m->t.T i (t.B k)=if i=k then 1 else 0
 free:∀ k,k<m->t.c (t.B k)=0
theorem Fit.inj {m N:Nat} {t:Tab} (h:Fit m N t) {i k:Nat} (hi:i<m) (hk:k<m) (e:t.B i=t.B k):i=k:=by
 have h1:=h.unit i i hi hi;have h2:=h.unit i k hi hk;rw [e,h2] at h1;by_cases nq:i=k
 ·exact nq
 ·rw [if_neg nq,if_pos rfl] at h1; grind
theorem piv_fit {m N:Nat} {t:Tab} {r s:Nat} (h:Fit m N t) (hr:r<m) (hs:s<N) (hp:t.T r s≠0):Fit m N (piv t r s):=by
 refine ⟨fun i hi=>?_,fun i k hi hk=>?_,fun k hk=>?_⟩
 ·show (if i=r then s else t.B i)<N;split
  ·exact hs
  ·exact h.lt i hi
 ·show pivT t r s i (if k=r then s else t.B k)=_;unfold pivT;by_cases zj:k=r
  ·subst zj;simp only [if_pos];by_cases nq:i=k
   ·subst nq;exact Ya1b
   ·rw [if_neg nq,if_neg nq]; grind
  ·rw [if_neg zj];have h1:=h.unit r k hr hk;rw [if_neg (Oo zj)] at h1;have h2:=h.unit i k hi hk;by_cases xn:i=r
   ·subst xn; rw [if_pos rfl,h1,if_neg (Oo zj)]; grind
   ·rw [if_neg xn,h1,h2]; grind
 ·show t.c (if k=r then s else t.B k) - t.c s*(t.T r (if k=r then s else t.B k) / t.T r s)=0;by_cases zj:k=r
  ·subst zj; simp only [if_pos]; grind
  ·rw [if_neg zj,h.free k hk];have h1:=h.unit r k hr hk;rw [if_neg (Oo zj)] at h1;rw [h1]; grind
def dir (m:Nat) (t:Tab) (s:Nat) (j:Nat):Rat:=(if j=s then 1 else 0) - sum m fun k=>if j=t.B k then t.T k s else 0
theorem Wr {m N:Nat} {t:Tab} (h:Fit m N t) {s:Nat} (hs:s<N+1) (a:Nat->Rat):dot N a (dir m t s)=a s - sum m fun k=>t.T k s*a (t.B k):=by
 unfold dot dir;have e1:∀ j,a j*((if j=s then 1 else 0) - sum m fun k=>if j=t.B k then t.T k s else 0)=(if j=s then a j else 0) - sum m fun k=>if j=t.B k then t.T k s*a j else 0:=by
  intro j;have e2:(sum m fun k=>if j=t.B k then t.T k s*a j else 0)=a j*sum m fun k=>if j=t.B k then t.T k s else 0:=by
   rw [<- Ji];exact sum_congr fun k _=>by split <;> grind
  rw [e2];split <;> grind
 rw [sum_congr fun j _=>e1 j,Acp,sum_one hs,Qv];congr 1;exact sum_congr fun k hk=>by
  have hb:t.B k<N+1:=by have:=h.lt k hk; omega
  rw [sum_one (f:=fun j=>t.T k s*a j) hb]
theorem Rj {m N:Nat} {t:Tab} (h:Fit m N t) {s:Nat} (hs:s<N+1):Ker m N t (dir m t s):=by
 intro i hi;rw [Wr h hs];have:(sum m fun k=>t.T k s*t.T i (t.B k))=t.T i s:=by
  rw [sum_congr (g:=fun k=>if k=i then t.T k s else 0) fun k hk=>?_,sum_one (f:=fun k=>t.T k s) hi];rw [h.unit i k hi hk];exact Ya3q
 rw [this]; grind
theorem Ql {m N:Nat} {t:Tab} (h:Fit m N t) {s:Nat} (hs:s<N+1):dot N t.c (dir m t s)=t.c s:=by
 rw [Wr h hs,sum_zero fun k hk=>by rw [h.free k hk]; grind]; grind
theorem Atb {m N:Nat} {t u:Tab} (ht:Fit m N t) (hu:Fit m N u) (hB:∀ i,i<m->t.B i=u.B i) (hk:∀ x,Ker m N t x->Ker m N u x) (hc:∀ x,Ker m N t x->dot N u.c x=dot N t.c x) :
  (∀ i j,i<m->j<N+1->t.T i j=u.T i j)/\∀ j,j<N+1->t.c j=u.c j:=by
 have key:∀ a j,j<N+1->dot N a (dir m t j)=a j - sum m fun k=>t.T k j*a (u.B k):=fun a j hj=>by
  rw [Wr ht hj];congr 1;exact sum_congr fun k hk=>by rw [hB k hk]
 constructor
 ·intro i j hi hj;have h1:=hk _ (Rj ht hj) i hi;rw [key _ j hj] at h1;have:(sum m fun k=>t.T k j*u.T i (u.B k))=t.T i j:=by
   rw [sum_congr (g:=fun k=>if k=i then t.T k j else 0) fun k hk=>?_,sum_one (f:=fun k=>t.T k j) hi];rw [hu.unit i k hi hk];exact Ya3q
  rw [this] at h1;grind
 ·intro j hj;have h1:=hc _ (Rj ht hj);rw [key _ j hj,Ql ht hj,sum_zero fun k hk=>by rw [hu.free k hk]; grind] at h1;grind
end Go.Proofs.YtcandeobhlfkbaaGreat.Simp
namespace Go.Proofs.YtcandeobhlfkbaaGreat.Simp
structure Step (m N L:Nat) (t:Tab) (r s:Nat):Prop where
 r_lt:r<m
 s_lt:s<L
 neg:t.c s<0
 first:∀ j,j<s->0<=t.c j
 pos:0<t.T r s
 least:∀ i,i<m->0<t.T i s->t.T r N / t.T r s<=t.T i N / t.T i s
 tie:∀ i,i<m->0<t.T i s->t.T r N / t.T r s=t.T i N / t.T i s->t.B r<=t.B i
structure Run (m N L K:Nat) where
 t:Nat->Tab
 r:Nat->Nat
 s:Nat->Nat
 step:∀ k,k<K->Step m N L (t k) (r k) (s k)
 next:∀ k,k<K->t (k+1)=piv (t k) (r k) (s k)
 fit:Fit m N (t 0)
 LN:L<=N
 right:∀ i,i<m->0<=(t 0).T i N
section
variable {m N L K:Nat} (R:Run m N L K)
theorem Run.fits (k:Nat) (h:k<=K):Fit m N (R.t k):=by
 induction k with
 | zero=>exact R.fit
 | succ k ih =>
  have hs:=R.step k aA;rw [R.next k aA];exact piv_fit (ih aA) hs.r_lt (by have:=hs.s_lt; have:=R.LN; omega) (by have:=hs.pos; grind)
theorem Mk {a b:Rat} (ha:0<=a) (hb:0<b):0<=a / b:=by
 rw [Rat.div_def];exact V9 ha (Rat.le_of_lt (Rat.inv_pos.mpr hb))
theorem Run.rights (k:Nat) (h:k<=K):∀ i,i<m->0<=(R.t k).T i N:=by
 induction k with
 | zero=>exact R.right
 | succ k ih0 =>
  intro i hi;have hs:=R.step k aA;have ih:=ih0 aA;have hr:=ih (R.r k) hs.r_lt;have hq:=Mk hr hs.pos;rw [R.next k aA];show 0<=pivT _ _ _ _ _;unfold pivT;split
  ·exact hq
  ·have aq:=ih i hi;by_cases hp:0<(R.t k).T i (R.s k)
   ·have hl:=hs.least i hi hp;have h1:(R.t k).T i (R.s k)*((R.t k).T (R.r k) N / (R.t k).T (R.r k) (R.s k))<=(R.t k).T i (R.s k)*((R.t k).T i N / (R.t k).T i (R.s k)):=Rat.mul_le_mul_of_nonneg_left hl (Rat.le_of_lt hp);have h2:(R.t k).T i (R.s k)*((R.t k).T i N / (R.t k).T i (R.s k))=(R.t k).T i N:=aM
    grind
   ·have h1:0<=(-(R.t k).T i (R.s k))*((R.t k).T (R.r k) N / (R.t k).T (R.r k) (R.s k)):=V9 aM hq;grind
theorem Run.ker {k l:Nat} (hkl:k<=l) (hl:l<=K) (x:Nat->Rat):Ker m N (R.t l) x↔Ker m N (R.t k) x:=by
 induction l with
 | zero =>
  have:k=0:=aA
  subst this; exact Iff.rfl
 | succ l ih =>
  by_cases e:k=l+1
  ·subst e; exact Iff.rfl
  ·have hs:=R.step l aA;rw [R.next l aA,piv_ker hs.r_lt (by have:=hs.pos; grind)];exact ih aA aA
theorem Run.cost {k l:Nat} (hkl:k<=l) (hl:l<=K) {x:Nat->Rat} (hx:Ker m N (R.t k) x):dot N (R.t l).c x=dot N (R.t k).c x:=by
 induction l with
 | zero =>
  have:k=0:=aA
  subst this; rfl
 | succ l ih =>
  by_cases e:k=l+1
  ·subst e; rfl
  ·have hs:=R.step l aA;rw [R.next l aA,piv_cost hs.r_lt ((R.ker (k:=k) aA aA x).2 hx)];exact ih aA aA
theorem Run.gain {k:Nat} (h:k<K):(R.t (k+1)).c N=(R.t k).c N+(-(R.t k).c (R.s k))*((R.t k).T (R.r k) N / (R.t k).T (R.r k) (R.s k)):=by
 rw [R.next k h];show (R.t k).c N - _=_;grind
theorem Run.grow {k:Nat} (h:k<K):(R.t k).c N<=(R.t (k+1)).c N:=by
 have hs:=R.step k h;have h1:0<=(-(R.t k).c (R.s k))*((R.t k).T (R.r k) N / (R.t k).T (R.r k) (R.s k)):=V9 (by have:=hs.neg; grind) (Mk (R.rights k aA _ hs.r_lt) hs.pos);rw [R.gain h]; grind
theorem Run.mono {k l:Nat} (hkl:k<=l) (hl:l<=K):(R.t k).c N<=(R.t l).c N:=by
 induction l with
 | zero =>
  have:k=0:=aA
  subst this; exact Yo
 | succ l ih =>
  by_cases e:k=l+1
  ·subst e; exact Yo
  ·exact Rat.le_trans (ih aA aA) (R.grow aA)
theorem Run.basis {k:Nat} (h:k<K) (i:Nat):(R.t (k+1)).B i=if i=R.r k then R.s k else (R.t k).B i:=by rw [R.next k h]; rfl
theorem Run.out {k l i y:Nat} (hkl:k<=l) (hl:l<=K) (h1:(R.t k).B i=y) (h2:(R.t l).B i≠y):∃ j,k<=j/\j<l/\R.r j=i/\(R.t j).B i=y:=by
 induction l with
 | zero =>
  have:k=0:=aA
  subst this; exact absurd h1 h2
 | succ l ih =>
  by_cases e:k=l+1
  ·subst e; exact absurd h1 h2
  ·by_cases h3:(R.t l).B i=y
   ·refine ⟨l,aA,aA,?_,h3⟩;rw [R.basis aA] at h2;by_cases e2:i=R.r l
    ·exact e2.symm
    ·rw [if_neg e2] at h2; exact absurd h3 h2
   ·obtain ⟨j,a,b,c⟩:=ih aA aA h3;exact ⟨j,a,aA,c⟩
theorem Run.into {k l i y:Nat} (hkl:k<=l) (hl:l<=K) (h1:(R.t k).B i≠y) (h2:(R.t l).B i=y):∃ j,k<=j/\j<l/\R.r j=i/\R.s j=y:=by
 induction l with
 | zero =>
  have:k=0:=aA
  subst this; exact absurd h2 h1
 | succ l ih =>
  by_cases e:k=l+1
  ·subst e; exact absurd h2 h1
  ·by_cases h3:(R.t l).B i=y
   ·obtain ⟨j,a,b,c⟩:=ih aA aA h3;exact ⟨j,a,aA,c⟩
   ·rw [R.basis aA] at h2;by_cases e2:i=R.r l
    ·rw [if_pos e2] at h2; exact ⟨l,aA,aA,e2.symm,h2⟩
    ·rw [if_neg e2] at h2; exact absurd h2 h3
theorem Aqc {f:Nat->Nat} {p q:Nat} (h:p<q):∃ k,p<=k/\k<q/\∀ j,p<=j->j<q->f j<=f k:=by
 obtain ⟨d,rfl⟩:∃ d,q=p+d+1:=⟨q - p - 1,aA⟩;clear h;induction d with
 | zero=>exact ⟨p,aA,aA,fun j h1 h2=>by
   have:j=p:=aA
   subst this; exact Cc _⟩
 | succ d ih =>
  obtain ⟨k,h1,h2,h3⟩:=ih;by_cases h4:f k<=f (p+d+1)
  ·refine ⟨p+d+1,aA,aA,fun j h5 h6=>?_⟩;by_cases e:j=p+d+1
   ·subst e;exact Ya2t
   ·exact Fb (h3 j h5 aA) h4
  ·refine ⟨k,h1,aA,fun j h5 h6=>?_⟩;by_cases e:j=p+d+1
   ·subst e; omega
   ·exact h3 j h5 aA
theorem Run.bland {p q:Nat} (hpq:p<q) (hq:q<=K) (hB:∀ i,i<m->(R.t p).B i=(R.t q).B i):False:=by
 have hfp:=R.fits p aA;have hfq:=R.fits q hq;obtain ⟨-,hc⟩:=Atb hfp hfq hB (fun x hx=>(R.ker aA hq x).2 hx) (fun x hx=>R.cost aA hq hx);have hz:∀ k,p<=k->k<q->(R.t k).T (R.r k) N=0:=fun k h1 h2=>by
  have hs:=R.step k aA;have g0:=R.mono h1 (show k<=K by omega);have g1:=R.mono (show k+1<=q by omega) hq;have g2:=R.grow (k:=k) aA;have g3:=hc N aA;have g4:=R.gain (k:=k) aA;have g5:(-(R.t k).c (R.s k))*((R.t k).T (R.r k) N / (R.t k).T (R.r k) (R.s k))=0:=aM
  have hn:=hs.neg;have hp:=hs.pos;grind
 have hb:∀ k,p<=k->k<=q->∀ i,i<m->(R.t k).T i N=(R.t p).T i N:=by
  intro k h1 h2;induction k with
  | zero =>
   have:p=0:=aA
   subst this; exact fun _ _=>rfl
  | succ k ih =>
   by_cases e:p=k+1
   ·subst e; exact fun _ _=>rfl
   ·intro i hi;have h0:=hz k aA aA;rw [<- ih aA aA i hi,R.next k aA];show pivT _ _ _ _ _=_;unfold pivT;by_cases e2:i=R.r k
    ·subst e2; rw [if_pos rfl,h0]; grind
    ·rw [if_neg e2,h0]; grind
 have bo:∀ k j,p<=k->k<q->p<=j->j<=q->(R.t j).T (R.r k) N=0:=fun k j h1 h2 h3 h4=>by
  have hs:=R.step k aA;rw [hb j h3 h4 _ hs.r_lt,<- hb k h1 aA _ hs.r_lt];exact hz k h1 h2
 have fv:∀ {i y k l:Nat},i<m->p<=k->k<=q->p<=l->l<=q->(R.t k).B i=y->(R.t l).B i≠y->∃ j,p<=j/\j<q/\R.r j=i/\R.s j=y:=by
  intro i y k l hi h1 h2 h3 h4 h5 h6;by_cases e:(R.t p).B i=y
  ·obtain ⟨j,a,b,c⟩:=R.into h4 hq h6 ((hB i hi).symm.trans e);exact ⟨j,aA,b,c⟩
  ·obtain ⟨j,a,b,c⟩:=R.into h1 aA e h5;exact ⟨j,a,aA,c⟩
 obtain ⟨k1,a1,a2,a3⟩:=Aqc (f:=R.s) hpq;have hs1:=R.step k1 aA;have ls:=R.fits k1 aA;obtain ⟨y,hy⟩:∃ y,y=R.s k1:=⟨_,rfl⟩;have a0f:∃ k2,p<=k2/\k2<q/\(R.t k2).B (R.r k2)=y:=by
  have a19:(R.t k1).B (R.r k1)≠y:=fun e=>by
   have:=ls.free _ hs1.r_lt;rw [e,hy] at this;have:=hs1.neg;grind
  have ik:(R.t (k1+1)).B (R.r k1)=y:=by rw [R.basis aA,if_pos rfl,hy]
  by_cases e:(R.t q).B (R.r k1)=y
  ·obtain ⟨j,b1,b2,b3,b4⟩:=R.out a1 aA ((hB _ hs1.r_lt).trans e) a19;exact ⟨j,b1,aA,by rw [b3]; exact b4⟩
  ·obtain ⟨j,b1,b2,b3,b4⟩:=R.out (show k1+1<=q by omega) hq ik e;exact ⟨j,aA,b2,by rw [b3]; exact b4⟩
 obtain ⟨k2,c1,c2,c3⟩:=a0f;have hs2:=R.step k2 aA;have bm:=R.fits k2 aA;have hsN:R.s k2<N+1:=by have:=hs2.s_lt; have:=R.LN; omega
 have hd:=Rj bm hsN;have e1:=Ql bm hsN;have e2:dot N (R.t k1).c (dir m (R.t k2) (R.s k2))=dot N (R.t k2).c (dir m (R.t k2) (R.s k2)):=by
  rcases Nat.le_total k1 k2 with h|h
  ·exact (R.cost h aA ((R.ker h aA _).1 hd)).symm
  ·exact R.cost h aA hd
 rw [e1,Wr bm hsN] at e2;have hsy:R.s k2<y:=by
  have h1:=a3 k2 c1 c2;rw [<- hy] at h1;have h2:R.s k2≠y:=fun e=>by
   have h3:=bm.free _ hs2.r_lt;rw [c3,<- e] at h3;have:=hs2.neg;grind
  omega
 have h0:=hs1.first (R.s k2) (by rw [<- hy]; exact hsy)
 have a2t:=hs2.neg;obtain ⟨i,hi,hip⟩:=Qa (n:=m) (f:=fun k=>(R.t k2).T k (R.s k2)*(R.t k1).c ((R.t k2).B k)) aM;have hx:∀ i',i'<m->(R.t k1).B i'≠(R.t k2).B i:=fun i' aq e=>by
  have:=ls.free i' aq;rw [e] at this;rw [this] at hip;grind
 obtain ⟨j,d1,d2,d3,d4⟩:=fv hi c1 aA a1 aA rfl (hx i hi);have hle:(R.t k2).B i<=y:=by rw [<- d4,hy]; exact a3 j d1 d2
 have hbi:(R.t k2).T i N=0:=by rw [<- d3]; exact bo j k2 d1 d2 c1 aA
 have hne:(R.t k2).B i≠y:=fun e=>by
  have xn:i=R.r k2:=bm.inj hi hs2.r_lt (e.trans c3.symm);subst xn;rw [c3,hy] at hip;have h1:=hs1.neg;have h2:=hs2.pos;have h3:0<(R.t k2).T (R.r k2) (R.s k2)*(-(R.t k1).c (R.s k1)):=Rat.mul_pos h2 aM;grind
 have h5:=hs1.first ((R.t k2).B i) (by rw [<- hy]; omega)
 have h6:0<(R.t k2).T i (R.s k2):=by
  refine Pn fun h=>?_;have h7:0<=(-(R.t k2).T i (R.s k2))*(R.t k1).c ((R.t k2).B i):=V9 aM h5;grind
 have h8:=hs2.tie i hi h6 (by rw [hbi,hz k2 c1 c2]; grind);rw [c3] at h8;omega
end
end Go.Proofs.YtcandeobhlfkbaaGreat.Simp
namespace Go.Proofs.YtcandeobhlfkbaaGreat.Simp
theorem Akg:∀ (M:Nat) (f:Nat->Nat),(∀ k,k<=M->f k<M)->∃ p q,p<q/\q<=M/\f p=f q
 | 0,f,h=>absurd (h 0 (Cc _)) aA
 | M+1,f,h=>by
  by_cases hx:∃ k,k<=M/\f k=f (M+1)
  ·obtain ⟨k,h1,h2⟩:=hx;exact ⟨k,M+1,aA,Cc _,h2⟩
  ·have hne:∀ k,k<=M->f k≠f (M+1):=fun k hk e=>hx ⟨k,hk,e⟩;obtain ⟨p,q,h1,h2,h3⟩:=Akg M (fun k=>if f k > f (M+1) then f k - 1 else f k) fun k hk=>by
    have a:=h k aA;have b:=h (M+1) (Cc _);have c:=hne k hk;split <;> omega
   have a:=hne p aA;have b:=hne q h2;refine ⟨p,q,h1,aA,?_⟩;split at h3 <;> split at h3 <;> omega
def code (N:Nat) (B:Nat->Nat):Nat->Nat
 | 0=>0
 | m+1=>code N B m*N+B m
theorem Abj {N:Nat} {B:Nat->Nat} : ∀ {m:Nat},(∀ i,i<m->B i<N)->code N B m<N ^ m
 | 0,_=>by simp [code]
 | m+1,h=>by
  have h1:=Abj (m:=m) fun i hi=>h i aA;have h2:=h m aA;rw [code,Ss];have h3:(code N B m+1)*N<=N ^ m*N:=Ic _ h1;rw [Sg] at h3;omega
theorem Wl {N:Nat} {B C:Nat->Nat} : ∀ {m:Nat},(∀ i,i<m->B i<N)->(∀ i,i<m->C i<N)->code N B m=code N C m->∀ i,i<m->B i=C i
 | 0,_,_,_,i,hi=>aA
 | m+1,hb,hc,h,i,hi=>by
  have h1:=hb m aA;have h2:=hc m aA;rw [code,code] at h;have e1:B m=C m:=by
   have a:(code N B m*N+B m) % N=B m:=by rw [O1,Nat.mul_add_mod]; exact Sk h1
   have b:(code N C m*N+C m) % N=C m:=by rw [O1,Nat.mul_add_mod]; exact Sk h2
   rw [h] at a;exact a.symm.trans b
  have e2:code N B m=code N C m:=by
   rw [e1] at h;have h3:code N B m*N=code N C m*N:=aA
   exact Nat.eq_of_mul_eq_mul_right aA h3
  by_cases e:i=m
  ·subst e; exact e1
  ·exact Wl (fun i hi=>hb i aA) (fun i hi=>hc i aA) e2 i aA
theorem Run.short {m N L K:Nat} (R:Run m N L K):K<N ^ m:=by
 refine Pn fun hk=>?_;have hk:N ^ m<=K:=aA
 obtain ⟨p,q,h1,h2,h3⟩:=Akg (N ^ m) (fun k=>code N (R.t k).B m) fun k y6=>Abj (R.fits k aA).lt;exact R.bland h1 aA (Wl (R.fits p aA).lt (R.fits q aA).lt h3)
def Run.none {m N L:Nat} {t:Tab} (h:Fit m N t) (hL:L<=N) (hr:∀ i,i<m->0<=t.T i N):Run m N L 0:=⟨fun _=>t,fun _=>0,fun _=>0,fun k hk=>aA,fun k hk=>aA,h,hL,hr⟩
def Run.more {m N L K:Nat} (R:Run m N L K) {r s:Nat} (h:Step m N L (R.t K) r s):Run m N L (K+1) where
 t:=fun k=>if k=K+1 then piv (R.t K) r s else R.t k
 r:=fun k=>if k=K then r else R.r k
 s:=fun k=>if k=K then s else R.s k
 step:=fun k hk=>by
  rw [if_neg (show ¬ k=K+1 by omega)];by_cases e:k=K
  ·subst e; rw [if_pos rfl,if_pos rfl]; exact h
  ·rw [if_neg e,if_neg e]; exact R.step k aA
 next:=fun k hk=>by
  rw [if_neg (show ¬ k=K+1 by omega)];by_cases e:k=K
  ·subst e; rw [if_pos rfl,if_pos rfl,if_pos rfl]
  ·rw [if_neg e,if_neg e,if_neg aA]; exact R.next k aA
 fit:=by rw [if_neg aA]; exact R.fit
 LN:=R.LN
 right:=by rw [if_neg aA]; exact R.right
theorem Run.more_last {m N L K:Nat} (R:Run m N L K) {r s:Nat} (h:Step m N L (R.t K) r s):(R.more h).t (K+1)=piv (R.t K) r s:=if_pos rfl
theorem Run.more_old {m N L K:Nat} (R:Run m N L K) {r s:Nat} (h:Step m N L (R.t K) r s) {k:Nat} (hk:k<=K):(R.more h).t k=R.t k:=if_neg aA
structure Sol (m N:Nat) (t:Tab) (x:Nat->Rat):Prop where
 ker:Ker m N t x
 pos:∀ j,j<N->0<=x j
 one:x N=-1
def base (m N:Nat) (t:Tab) (j:Nat):Rat:=- dir m t N j
theorem Aiv (N:Nat) (a x:Nat->Rat):dot N a (fun j=>- x j)=- dot N a x:=by
 unfold dot;have h:=Ji (-1) (fun j=>a j*x j) (N+1);rw [sum_congr (g:=fun j=>-1*(a j*x j)) fun j _=>aM,h]; grind
theorem Ade {m N:Nat} {t:Tab} (h:Fit m N t) (hr:∀ i,i<m->0<=t.T i N):Sol m N t (base m N t):=by
 refine ⟨fun i hi=>?_,fun j hj=>?_,?_⟩
 ·have:=Rj h (s:=N) aA i hi;show dot N (t.T i) (fun j=>- dir m t N j)=0;rw [Aiv,this]; grind
 ·show 0<=- dir m t N j;unfold dir;rw [if_neg aA];have:0<=sum m fun k=>if j=t.B k then t.T k N else 0:=sum_nonneg fun k hk=>by
   split
   ·exact hr k hk
   ·exact Yo
  grind
 ·show - dir m t N N=-1;unfold dir;rw [if_pos rfl,sum_zero fun k hk=>if_neg (by have:=h.lt k hk; omega)]; grind
theorem Yy {m N:Nat} {t:Tab} (h:Fit m N t):dot N t.c (base m N t)=- t.c N:=by
 show dot N t.c (fun j=>- dir m t N j)=_;rw [Aiv,Ql h aA]
theorem Aaz {f:Nat->Rat} {L:Nat} : ∀ {N:Nat},L<=N->(∀ j,L<=j->j<N->f j=0)->sum N f=sum L f
 | 0,h,_=>by
  have:L=0:=aA
  subst this; rfl
 | N+1,h,hz=>by
  by_cases e:L=N+1
  ·subst e; rfl
  ·rw [sum,hz N aA aA,Aaz aA fun j h1 h2=>hz j h1 aA]; grind
theorem Amw {m N L:Nat} {t:Tab} (hL:L<=N) (hc:∀ j,j<L->0<=t.c j) {x:Nat->Rat} (hx:Sol m N t x) (h0:∀ j,L<=j->j<N->x j=0) : - t.c N<=dot N t.c x:=by
 have h1:0<=sum N fun j=>t.c j*x j:=by
  rw [Aaz hL fun j h1 h2=>by rw [h0 j h1 h2]; grind];exact sum_nonneg fun j hj=>V9 (hc j hj) (hx.pos j aA)
 unfold dot;rw [sum,hx.one]; grind
end Go.Proofs.YtcandeobhlfkbaaGreat.Simp
namespace Go.Proofs.YtcandeobhlfkbaaGreat.Simp
def isum:Nat->(Nat->Int)->Int
 | 0,_=>0
 | n+1,f=>isum n f+f n
theorem Ad6 (f g:Nat->Int):∀ n,isum n (fun j=>f j - g j)=isum n f - isum n g
 | 0=>rfl
 | n+1=>by simp only [isum,Ad6 f g n]; omega
theorem Pk {f:Nat->Int} {b:Nat} : ∀ {n:Nat},(∀ j,j<n->(f j).natAbs<=b)->(isum n f).natAbs<=n*b
 | 0,_=>by simp [isum]
 | n+1,h=>by
  have h1:=Pk (f:=f) (b:=b) (n:=n) fun j hj=>h j aA;have h2:=h n aA;rw [isum,Sg]; omega
theorem R8 (f:Nat->Int):∀ n,((isum n f:Int):Rat)=sum n fun j=>((f j:Int):Rat)
 | 0=>by simp [isum,sum]
 | n+1=>by rw [isum,sum,Sy,R8 f n]
def dg (b n k:Nat):Nat:=k / b ^ n % b
theorem Asd {b:Nat} (hb:0<b):∀ {d p q:Nat},p<b ^ d->q<b ^ d->(∀ n,n<d->dg b n p=dg b n q)->p=q
 | 0,p,q,hp,hq,_=>by simp at hp hq; omega
 | d+1,p,q,hp,hq,h=>by
  have h0:=h 0 aA;simp only [dg,Nat.pow_zero,Nat.div_one] at h0;have h1:p / b=q / b:=by
   refine Asd hb (d:=d) ?_ ?_ fun n hn=>?_
   ·rw [O8 hb,<- Ss]; exact hp
   ·rw [O8 hb,<- Ss]; exact hq
   ·have:=h (n+1) aA;simpa only [dg,Ss,O1,Nat.div_div_eq_div_mul] using this
  have e1:=iG p b;have e2:=iG q b;rw [h1,h0] at e1;omega
theorem Ata (m M:Nat) (hM:1<=M) (a:Nat->Nat->Int) (ha:∀ i k,i<m->k<m+1->(a i k).natAbs<=M) :
  ∃ u:Nat->Int,(∃ k,k<m+1/\u k≠0)/\(∀ k,(u k).natAbs<=(2*((m+1)*M)) ^ m)/\∀ i,i<m->isum (m+1) (fun k=>a i k*u k)=0:=by
 obtain ⟨S,hS⟩:∃ S,S=(m+1)*M:=⟨_,rfl⟩;obtain ⟨H,hH⟩:∃ H,H=(2*S) ^ m:=⟨_,rfl⟩;have cj:1<=S:=by rw [hS]; exact Fb hM (Nat.le_mul_of_pos_left M aA)
 obtain ⟨W,hW⟩:∃ W,W=2*(H*S)+1:=⟨_,rfl⟩;have a0e:W ^ m<(H+1) ^ (m+1):=by
  have h1:W<=(H+1)*(2*S):=by
   have:(H+1)*(2*S)=2*(H*S)+2*S:=by rw [Sg,Nat.mul_left_comm]; omega
   omega
  have h2:W ^ m<=((H+1)*(2*S)) ^ m:=Nat.pow_le_pow_left h1 m;rw [Nat.mul_pow,<- hH] at h2;have h3:(H+1) ^ (m+1)=(H+1) ^ m*(H+1):=Ss _ _;have h4:0<(H+1) ^ m:=Nat.pow_pos aA;rw [h3,Nat.mul_add,Ib];omega
 obtain ⟨im,zh⟩:∃ im:Nat->Nat->Int,im=fun p i=>isum (m+1) fun k=>a i k*(dg (H+1) k p:Int):=⟨_,rfl⟩;have hdg:∀ k p,dg (H+1) k p<=H:=fun k p=>by
  have:=gT (p / (H+1) ^ k) (show 0<H+1 by omega);unfold dg; omega
 have hb:∀ p i,i<m->(im p i).natAbs<=H*S:=fun p i hi=>by
  have h1:=Pk (f:=fun k=>a i k*(dg (H+1) k p:Int)) (b:=M*H) (n:=m+1) fun k hk=>by
   rw [Ie];exact Ov (ha i k hi hk) (by have:=hdg k p; omega)
  rw [zh,hS];refine Fb h1 (Nat.le_of_eq ?_);rw [<- Nat.mul_assoc,O1]
 obtain ⟨p,q,h1,h2,h3⟩:=Akg (W ^ m) (fun p=>code W (fun i=>(im p i+(H*S:Nat)).toNat) m) fun p _=>Abj fun i hi=>by
  have:=hb p i hi;omega
 have heq:=Wl (N:=W) (m:=m) (fun i hi=>by have:=hb p i hi; omega) (fun i hi=>by have:=hb q i hi; omega) h3;refine ⟨fun k=>(dg (H+1) k q:Int) - (dg (H+1) k p:Int),?_,fun k=>?_,fun i hi=>?_⟩
 ·refine Pn fun hx=>?_;have:p=q:=Asd (b:=H+1) (d:=m+1) aA aA aA fun n hn=>by
   have hn0:¬ ((dg (H+1) n q:Int) - (dg (H+1) n p:Int)≠0):=fun h=>hx ⟨n,hn,h⟩;omega
  omega
 ·rw [<- hS,<- hH];have:=hdg k p;have:=hdg k q;dsimp only;omega
 ·have e:isum (m+1) (fun k=>a i k*((dg (H+1) k q:Int) - (dg (H+1) k p:Int)))=im q i - im p i:=by
   rw [zh];show _=isum (m+1) _ - isum (m+1) _;rw [<- Ad6];congr 1;funext k;rw [Int.mul_sub]
  rw [e];have h4:=heq i hi;have h5:=hb p i hi;have h6:=hb q i hi;omega
end Go.Proofs.YtcandeobhlfkbaaGreat.Simp
namespace Go.Proofs.YtcandeobhlfkbaaGreat.Simp
theorem X4 (f:Nat->Rat):∀ n,sum (n+1) f=f 0+sum n fun k=>f (k+1)
 | 0=>dI
 | n+1=>by
  rw [sum,X4 f n,sum]; grind
def Ak3 (d:Nat) (col:Nat->Nat) (u:Nat->Int) (c:Nat):Rat:=sum d fun k=>if c=col k then ((u k:Int):Rat) else 0
theorem Lw {N d:Nat} {col:Nat->Nat} {u:Nat->Int} (hc:∀ k,k<d->col k<N+1) (a:Nat->Rat):dot N a (Ak3 d col u)=sum d fun k=>a (col k)*((u k:Int):Rat):=by
 unfold dot Ak3;have e1:∀ j,a j*(sum d fun k=>if j=col k then ((u k:Int):Rat) else 0)=sum d fun k=>if j=col k then a j*((u k:Int):Rat) else 0:=by
  intro j;rw [<- Ji];exact sum_congr fun k _=>by split <;> grind
 rw [sum_congr fun j _=>e1 j,Qv];exact sum_congr fun k hk=>by
  have h:=sum_one (f:=fun j=>a j*((u k:Int):Rat)) (s:=col k) (hc k hk);exact h
theorem small {m N M Mc:Nat} (hM:1<=M) {t0 t:Tab} {a:Nat->Nat->Int} {a0:Nat->Int} (ha:∀ i j,i<m->j<N+1->t0.T i j=((a i j:Int):Rat)/\(a i j).natAbs<=M) (sm:∀ j,j<N+1->t0.c j=((a0 j:Int):Rat)/\(a0 j).natAbs<=Mc)
  (ht:Fit m N t) (hk:∀ x,Ker m N t0 x->Ker m N t x) (hc:∀ x,Ker m N t0 x->dot N t.c x=dot N t0.c x) {j:Nat} (hj:j<N+1) :
  ∃ y0:Int,y0≠0/\y0.natAbs<=(2*((m+1)*M)) ^ m/\(∀ i,i<m->∃ y:Int,t.T i j=((y:Int):Rat) / ((y0:Int):Rat)/\y.natAbs<=(2*((m+1)*M)) ^ m)/\∃ w:Int,t.c j=((w:Int):Rat) / ((y0:Int):Rat)/\w.natAbs<=(m+1)*(Mc*(2*((m+1)*M)) ^ m):=by
 obtain ⟨col,dz⟩:∃ col:Nat->Nat,col=fun k=>if k=0 then j else t.B (k - 1):=⟨_,rfl⟩
 have hlt:∀ k,k<m+1->col k<N+1:=fun k hk=>by
  rw [dz]; dsimp only;split
  ·exact hj
  ·have:=ht.lt (k - 1) aA; omega
 have jg:∀ k,col (k+1)=t.B k:=fun k=>by rw [dz]; simp
 have hc0:col 0=j:=by rw [dz]; simp
 obtain ⟨u,⟨k0,hk0,xo⟩,hub,hu⟩:=Ata m M hM (fun i k=>a i (col k)) fun i k hi hk=>(ha i (col k) hi (hlt k hk)).2;have hx:Ker m N t0 (Ak3 (m+1) col u):=by
  intro i hi;rw [Lw hlt];have h1:=congrArg (fun z:Int=>(z:Rat)) (hu i hi);rw [R8] at h1;rw [sum_congr (g:=fun k=>((a i (col k)*u k:Int):Rat)) fun k hk=>by rw [(ha i (col k) hi (hlt k hk)).1,Em]];rw [h1]; rfl
 have bo:∀ i,i<m->t.T i j*((u 0:Int):Rat)+((u (i+1):Int):Rat)=0:=fun i hi=>by
  have h1:=hk _ hx i hi;rw [Lw hlt,X4,hc0] at h1;rw [sum_congr (g:=fun k=>if k=i then ((u (k+1):Int):Rat) else 0) fun k hk=>by
   rw [jg,ht.unit i k hi hk];by_cases e:i=k
   ·subst e;exact Ya1b
   ·rw [if_neg e,if_neg (Oo e)]; grind] at h1
  rw [sum_one (f:=fun k=>((u (k+1):Int):Rat)) hi] at h1;exact h1
 have hy:u 0≠0:=fun h0=>by
  rw [h0] at bo;cases k0 with
  | zero=>exact xo h0
  | succ i =>
   have h1:=bo i aA;have h2:((u (i+1):Int):Rat)=((0:Int):Rat):=by
    have:((0:Int):Rat)=0:=rfl;rw [this] at h1 ⊢;grind
   exact xo (iH.mp h2)
 have hyr:((u 0:Int):Rat)≠0:=fun h=>hy (iH.mp (h.trans rfl));refine ⟨u 0,hy,hub 0,fun i hi=>⟨-(u (i+1)),?_,by have:=hub (i+1); omega⟩,?_⟩
 ·have h1:=bo i hi;rw [Oz];grind
 ·have h1:=hc _ hx;rw [Lw hlt,Lw hlt,X4,hc0,sum_zero fun k hk=>by rw [jg,ht.free k hk]; grind] at h1;refine ⟨isum (m+1) fun k=>a0 (col k)*u k,?_,?_⟩
  ·rw [R8];rw [sum_congr (g:=fun k=>((a0 (col k)*u k:Int):Rat)) fun k hk=>by rw [(sm (col k) (hlt k hk)).1,Em]] at h1;rw [<- h1]; grind
  ·exact Pk fun k hk=>by
    rw [Ie];exact Ov (sm (col k) (hlt k hk)).2 (hub k)
end Go.Proofs.YtcandeobhlfkbaaGreat.Simp
namespace Go.Proofs.YtcandeobhlfkbaaGreat.Simp
theorem X3 (f:Nat->Rat) (L:Nat):∀ m,sum (L+m) f=sum L f+sum m fun k=>f (L+k)
 | 0=>by simp only [sum,M9]; grind
 | m+1=>by
  rw [<- gY,sum,X3 f L m,sum]; grind
theorem Ae2 {f:Nat->Rat} : ∀ {n:Nat},(∀ j,j<n->0<=f j)->sum n f=0->∀ j,j<n->f j=0
 | 0,_,_,j,hj=>aA
 | n+1,h,h0,j,hj=>by
  rw [sum] at h0;have h1:=sum_nonneg (f:=f) (n:=n) fun j hj=>h j aA;have h2:=h n aA;by_cases e:j=n
  ·subst e; grind
  ·exact Ae2 (n:=n) (fun j hj=>h j aA) (show sum n f=0 by grind) j aA
theorem Pw (f:Nat->Rat) (n:Nat):sum n (fun j=>- f j)=- sum n f:=by
 have h:=Ji (-1) f n;rw [sum_congr (g:=fun j=>-1*f j) fun j _=>aM,h]; grind
def first (m L:Nat) (R:Nat->Nat->Rat) (b:Nat->Rat):Tab where
 T:=fun i j=>if j<L then R i j else if j<L+m then (if j=L+i then 1 else 0) else b i
 c:=fun j=>if j<L then - sum m (fun i=>R i j) else if j<L+m then 0 else - sum m b
 B:=fun i=>L+i
theorem first_fit (m L:Nat) (R:Nat->Nat->Rat) (b:Nat->Rat):Fit m (L+m) (first m L R b):=by
 refine ⟨fun i hi=>by show L+i<L+m; omega,fun i k hi hk=>?_,fun k hk=>?_⟩
 ·show (if L+k<L then R i (L+k) else if L+k<L+m then (if L+k=L+i then 1 else 0) else b i)=_;rw [if_neg aA,if_pos aA];by_cases e:i=k
  ·subst e; rw [if_pos rfl,if_pos rfl]
  ·rw [if_neg aA,if_neg e]
 ·show (if L+k<L then - sum m (fun i=>R i (L+k)) else if L+k<L+m then 0 else - sum m b)=0;rw [if_neg aA,if_pos aA]
theorem Rz {m L:Nat} {R:Nat->Nat->Rat} {b:Nat->Rat} {i:Nat} (hi:i<m) (x:Nat->Rat):dot (L+m) ((first m L R b).T i) x=sum L (fun j=>R i j*x j)+x (L+i)+b i*x (L+m):=by
 unfold dot;rw [sum,X3];have e1:sum L (fun j=>(first m L R b).T i j*x j)=sum L fun j=>R i j*x j:=sum_congr fun j hj=>by simp only [first]; rw [if_pos hj]
 have e2:(sum m fun k=>(first m L R b).T i (L+k)*x (L+k))=x (L+i):=by
  rw [sum_congr (g:=fun k=>if k=i then x (L+k) else 0) fun k hk=>?_,sum_one (f:=fun k=>x (L+k)) hi];simp only [first];rw [if_neg aA,if_pos aA];by_cases e:k=i
  ·subst e;exact Ya1b
  ·rw [if_neg aA,if_neg e]; grind
 have e3:(first m L R b).T i (L+m)=b i:=Za5j
 rw [e1,e2,e3]
theorem first_cost {m L:Nat} {R:Nat->Nat->Rat} {b:Nat->Rat} {x:Nat->Rat} (h:Ker m (L+m) (first m L R b) x):dot (L+m) (first m L R b).c x=sum m fun i=>x (L+i):=by
 have h1:∀ i,i<m->x (L+i)=- (sum L (fun j=>R i j*x j)+b i*x (L+m)):=fun i hi=>by
  have:=h i hi;rw [Rz hi] at this;grind
 rw [sum_congr h1];unfold dot;rw [sum,X3];have e1:sum L (fun j=>(first m L R b).c j*x j)=- sum m (fun i=>sum L fun j=>R i j*x j):=by
  rw [<- Qv,<- Pw];refine sum_congr fun j hj=>?_;have e0:(first m L R b).c j=- sum m (fun i=>R i j):=by simp only [first]; rw [if_pos hj]
  rw [e0];have e2:=Ji (x j) (fun i=>R i j) m;rw [sum_congr (g:=fun i=>R i j*x j) fun i _=>aM] at e2;rw [e2]; grind
 have e2:(sum m fun k=>(first m L R b).c (L+k)*x (L+k))=0:=sum_zero fun k hk=>by
  simp only [first];rw [if_neg aA,if_pos aA]; grind
 have e3:(first m L R b).c (L+m)=- sum m b:=Za5j
 rw [e1,e2,e3];have e4:=Ji (x (L+m)) b m;rw [sum_congr (g:=fun i=>b i*x (L+m)) fun i _=>aM] at e4;rw [Pw,sum_add,e4];grind
theorem phase {m L:Nat} {R:Nat->Nat->Rat} {b:Nat->Rat} {t:Tab} (ht:Fit m (L+m) t) (hr:∀ i,i<m->0<=t.T i (L+m)) (hk:∀ x,Ker m (L+m) t x↔Ker m (L+m) (first m L R b) x)
  (hc:∀ x,Ker m (L+m) (first m L R b) x->dot (L+m) t.c x=dot (L+m) (first m L R b).c x) (a2a:∀ j,j<L->0<=t.c j) :
  t.c (L+m)=0↔∃ x:Nat->Rat,(∀ j,j<L->0<=x j)/\∀ i,i<m->sum L (fun j=>R i j*x j)=b i:=by
 have hs:=Ade ht hr;have hk0:=(hk _).1 hs.ker;have e1:=hc _ hk0;rw [Yy ht,first_cost hk0] at e1;have hn:∀ i,i<m->0<=base m (L+m) t (L+i):=fun i hi=>hs.pos _ aA;constructor
 ·intro h0;rw [h0] at e1;have hz:=Ae2 hn aM;refine ⟨base m (L+m) t,fun j hj=>hs.pos j aA,fun i hi=>?_⟩;have h1:=hk0 i hi;rw [Rz hi,hz i hi,hs.one] at h1;grind
 ·rintro ⟨x,hx,hb⟩;obtain ⟨x',hx'⟩:∃ x':Nat->Rat,x'=fun j=>if j<L then x j else if j<L+m then 0 else -1:=⟨_,rfl⟩
  have p1:∀ j,j<L->x' j=x j:=fun j hj=>by rw [hx']; exact if_pos hj
  have p2:∀ j,L<=j->j<L+m->x' j=0:=fun j h1 h2=>by
   rw [hx']; dsimp only; rw [if_neg aA,if_pos h2]
  have p3:x' (L+m)=-1:=by rw [hx']; dsimp only; rw [if_neg aA,if_neg aA]
  have a0g:Ker m (L+m) (first m L R b) x':=fun i hi=>by
   rw [Rz hi,p2 _ aA aA,p3,sum_congr (g:=fun j=>R i j*x j) fun j hj=>by rw [p1 j hj],hb i hi];grind
  have a2b:Sol m (L+m) t x':=⟨(hk _).2 a0g,fun j hj=>by
   by_cases h:j<L
   ·rw [p1 j h]; exact hx j h
   ·rw [p2 j aA hj]; exact Yo,p3⟩
  have h2:=Amw aA a2a a2b p2;rw [hc _ a0g,first_cost a0g,sum_zero fun k hk=>p2 _ aA aA] at h2;have h3:=sum_nonneg hn;grind
end Go.Proofs.YtcandeobhlfkbaaGreat.Simp
namespace Go.Proofs.YtcandeobhlfkbaaGreat.Simp
theorem Ait (N:Nat) (a x y:Nat->Rat):dot N a (fun j=>x j+y j)=dot N a x+dot N a y:=by
 unfold dot;rw [<- sum_add];exact Ya3l
theorem Zh (N:Nat) (k:Rat) (a x:Nat->Rat):dot N a (fun j=>k*x j)=k*dot N a x:=by
 unfold dot;rw [<- Ji];exact Ya3l
structure Real (m N L:Nat) (t:Tab) (x:Nat->Rat):Prop where
 sol:Sol m N t x
 zero:∀ j,L<=j->j<N->x j=0
theorem Ah2 {m N L:Nat} {t:Tab} (h:Fit m N t) (hr:∀ i,i<m->0<=t.T i N) (ha:∀ i,i<m->L<=t.B i->t.T i N=0):Real m N L t (base m N t):=by
 refine ⟨Ade h hr,fun j h1 h2=>?_⟩;show - dir m t N j=0;unfold dir;rw [if_neg aA,sum_zero fun k hk=>?_]
 ·grind
 ·split
  ·rename_i e;exact ha k hk aA
  ·rfl
theorem least_none {m N L s:Nat} {t:Tab} {f:Nat->Rat} (h:Fit m N t) (hL:L<=N) (hr:∀ i,i<m->0<=t.T i N) (ha:∀ i,i<m->L<=t.B i->t.T i N=0) (hs:s<L) (hn:t.c s<0) (hp:∀ i,i<m->t.T i s<=0) (has:∀ i,i<m->L<=t.B i->t.T i s=0)
  (hf:∀ x,Ker m N t x->dot N t.c x=dot N f x) (V:Rat):∃ x,Real m N L t x/\dot N f x<V:=by
 have hb:=Ah2 h hr ha;obtain ⟨d,hd⟩:∃ d,d=dir m t s:=⟨_,rfl⟩;have u5:=Rj h (s:=s) aA;have nw:=Ql h (s:=s) aA;rw [<- hd] at u5 nw;have cq:∀ j,0<=d j:=fun j=>by
  rw [hd];unfold dir;have h1:0<=sum m fun k=>if j=t.B k then - t.T k s else 0:=sum_nonneg fun k hk=>by
   split
   ·have:=hp k hk; grind
   ·exact Yo
  have h2:=Pw (fun k=>if j=t.B k then t.T k s else 0) m;rw [sum_congr (g:=fun k=>if j=t.B k then - t.T k s else 0) fun k _=>by split <;> grind] at h2;rw [h2] at h1;split <;> grind
 have hdz:∀ j,L<=j->d j=0:=fun j hj=>by
  rw [hd];unfold dir;rw [if_neg aA,sum_zero fun k hk=>?_]
  ·grind
  ·split
   ·rename_i e;exact has k hk aA
   ·rfl
 obtain ⟨l,ie,hl⟩:∃ l:Rat,0<=l/\- t.c N+l*t.c s<V:=by
  by_cases hv : - t.c N<V
  ·exact ⟨0,Yo,aM⟩
  ·refine ⟨(- t.c N - V+1) / (- t.c s),Mk aM aM,?_⟩;have:(- t.c N - V+1) / (- t.c s)*t.c s=- (- t.c N - V+1):=aM
   rw [this]; grind
 refine ⟨fun j=>base m N t j+l*d j,⟨⟨fun i hi=>?_,fun j hj=>?_,?_⟩,fun j h1 h2=>?_⟩,?_⟩
 ·rw [Ait,Zh,hb.sol.ker i hi,u5 i hi]; grind
 ·have h1:=hb.sol.pos j hj;have h2:=V9 ie (cq j);grind
 ·rw [hb.sol.one,hdz N hL]; grind
 ·rw [hb.zero j h1 h2,hdz j h1]; grind
 ·rw [Ait,Zh,<- hf _ hb.sol.ker,Yy h,<- hf _ u5,nw];exact hl
end Go.Proofs.YtcandeobhlfkbaaGreat.Simp
namespace Go.Proofs.YtcandeobhlfkbaaGreat.Simp
theorem Aay (f:Nat->Rat):∀ n,sum (2*n) f=sum n fun k=>f (2*k)+f (2*k+1)
 | 0=>rfl
 | n+1=>by
  rw [show 2*(n+1)=2*n+1+1 by omega,sum,sum,Aay f n,sum]; grind
structure Sys where
 m:Nat
 n:Nat
 A:Nat->Nat->Rat
 c:Nat->Rat
 eq:Nat->Bool
def Sys.val (y:Sys) (v:Nat->Rat) (i:Nat):Rat:=sum y.n (fun k=>y.A i k*v k)+y.c i
def Sys.holds (y:Sys) (v:Nat->Rat):Prop:=∀ i,i<y.m->y.val v i<=0/\(y.eq i=true->y.val v i=0)
structure Cols (y:Sys) (L:Nat) (sg:Nat->Rat) (sl:Nat->Nat) (R:Nat->Nat->Rat) (b:Nat->Rat):Prop where
 sq:∀ i,i<y.m->sg i*sg i=1
 lt:2*y.n<=L
 even:∀ i k,i<y.m->k<y.n->R i (2*k)=sg i*y.A i k
 odd:∀ i k,i<y.m->k<y.n->R i (2*k+1)=- (sg i*y.A i k)
 slack:∀ i j,i<y.m->2*y.n<=j->j<L->R i j=if y.eq i=false/\j=sl i then sg i else 0
 slot:∀ i,i<y.m->y.eq i=false->2*y.n<=sl i/\sl i<L
 apart:∀ i k,i<y.m->k<y.m->y.eq i=false->y.eq k=false->sl i=sl k->i=k
 right:∀ i,i<y.m->b i=- (sg i*y.c i)
theorem Cols.row {y:Sys} {L:Nat} {sg:Nat->Rat} {sl:Nat->Nat} {R:Nat->Nat->Rat} {b:Nat->Rat} (h:Cols y L sg sl R b) {i:Nat} (hi:i<y.m) (x:Nat->Rat) :
  sum L (fun j=>R i j*x j)=sg i*(sum y.n fun k=>y.A i k*(x (2*k) - x (2*k+1)))+if y.eq i=false then sg i*x (sl i) else 0:=by
 obtain ⟨d,hd⟩:∃ d,L=2*y.n+d:=⟨L - 2*y.n,by have:=h.lt; omega⟩;rw [hd,X3,Aay];have e1:(sum y.n fun k=>R i (2*k)*x (2*k)+R i (2*k+1)*x (2*k+1))=sg i*sum y.n fun k=>y.A i k*(x (2*k) - x (2*k+1)):=by
  rw [<- Ji];exact sum_congr fun k hk=>by rw [h.even i k hi hk,h.odd i k hi hk]; grind
 rw [e1];congr 1;cases he:y.eq i with
 | true =>
  rw [if_neg (by simp)];exact sum_zero fun k hk=>by
   rw [h.slack i _ hi aA aA,if_neg (by rw [he]; simp)]; grind
 | false =>
  rw [if_pos rfl];obtain ⟨h1,h2⟩:=h.slot i hi he;obtain ⟨q,hq⟩:∃ q,sl i=2*y.n+q:=⟨sl i - 2*y.n,aA⟩;rw [sum_congr (g:=fun k=>if k=q then sg i*x (2*y.n+k) else 0) fun k hk=>?_,sum_one (f:=fun k=>sg i*x (2*y.n+k)) aA,<- hq];rw [h.slack i _ hi aA aA];by_cases e:k=q
  ·subst e; rw [if_pos ⟨he,hq.symm⟩,if_pos rfl]
  ·rw [if_neg (fun h=>e aA),if_neg e]; grind
theorem Cols.to {y:Sys} {L:Nat} {sg:Nat->Rat} {sl:Nat->Nat} {R:Nat->Nat->Rat} {b:Nat->Rat} (h:Cols y L sg sl R b) {x:Nat->Rat} (hx:∀ j,j<L->0<=x j) (hr:∀ i,i<y.m->sum L (fun j=>R i j*x j)=b i):y.holds fun k=>x (2*k) - x (2*k+1):=by
 intro i hi;have h1:=hr i hi;have h2:=h.sq i hi;rw [h.row hi,h.right i hi] at h1;unfold Sys.val;generalize (sum y.n fun k=>y.A i k*(x (2*k) - x (2*k+1)))=z at *;cases he:y.eq i with
 | true =>
  rw [he,if_neg (by simp)] at h1;have h3:z+y.c i=0:=by
   have:sg i*(sg i*z+0)=sg i*(-(sg i*y.c i)):=by rw [h1]
   grind
  exact ⟨aM,fun _=>h3⟩
 | false =>
  rw [he,if_pos rfl] at h1;have h4:=hx (sl i) (h.slot i hi he).2;have h3:z+y.c i=- x (sl i):=by
   have:sg i*(sg i*z+sg i*x (sl i))=sg i*(-(sg i*y.c i)):=by rw [h1]
   grind
  exact ⟨aM,fun h=>aV⟩
theorem Cols.of {y:Sys} {L:Nat} {sg:Nat->Rat} {sl:Nat->Nat} {R:Nat->Nat->Rat} {b:Nat->Rat} (h:Cols y L sg sl R b) {v:Nat->Rat} (hv:y.holds v):∃ x:Nat->Rat,(∀ j,j<L->0<=x j)/\(∀ i,i<y.m->sum L (fun j=>R i j*x j)=b i)/\∀ k,k<y.n->x (2*k) - x (2*k+1)=v k:=by
 obtain ⟨x,hx⟩:∃ x:Nat->Rat,(∀ k,k<y.n->x (2*k)=if 0<=v k then v k else 0)/\(∀ k,k<y.n->x (2*k+1)=if 0<=v k then 0 else - v k)/\(∀ i,i<y.m->y.eq i=false->x (sl i)=- y.val v i)/\∀ j,j<L->0<=x j:=by
  classical
  refine ⟨fun j=>if j<2*y.n then (if j % 2=0 then (if 0<=v (j / 2) then v (j / 2) else 0) else (if 0<=v (j / 2) then 0 else - v (j / 2))) else if hq:∃ i,i<y.m/\y.eq i=false/\sl i=j then - y.val v hq.choose else 0,fun k hk=>?_,fun k hk=>?_,fun i hi he=>?_,fun j hj=>?_⟩
  ·simp only [];rw [if_pos aA,if_pos aA,show 2*k / 2=k by omega]
  ·simp only [];rw [if_pos aA,if_neg aA,show (2*k+1) / 2=k by omega]
  ·have hq:∃ i',i'<y.m/\y.eq i'=false/\sl i'=sl i:=⟨i,hi,he,rfl⟩;simp only [];rw [if_neg (by have:=(h.slot i hi he).1; omega),dif_pos hq];have:=h.apart _ _ hq.choose_spec.1 hi hq.choose_spec.2.1 he hq.choose_spec.2.2;rw [this]
  ·simp only [];split
   ·split <;> split <;> grind
   ·split
    ·rename_i hq;have:=(hv _ hq.choose_spec.1).1;grind
    ·exact Yo
 obtain ⟨x1,x2,x3,x4⟩:=hx;refine ⟨x,x4,fun i hi=>?_,fun k hk=>by rw [x1 k hk,x2 k hk]; split <;> grind⟩;rw [h.row hi,h.right i hi];have e1:(sum y.n fun k=>y.A i k*(x (2*k) - x (2*k+1)))=sum y.n fun k=>y.A i k*v k:=sum_congr fun k hk=>by
  rw [x1 k hk,x2 k hk];split <;> grind
 rw [e1];obtain ⟨g1,g2⟩:=hv i hi;cases he:y.eq i with
 | true =>
  rw [if_neg (by simp)];have:=g2 he;unfold Sys.val at this;grind
 | false =>
  rw [if_pos rfl,x3 i hi he];unfold Sys.val;grind
theorem Cols.solve {y:Sys} {L:Nat} {sg:Nat->Rat} {sl:Nat->Nat} {R:Nat->Nat->Rat} {b:Nat->Rat} (h:Cols y L sg sl R b) :
  (∃ x:Nat->Rat,(∀ j,j<L->0<=x j)/\∀ i,i<y.m->sum L (fun j=>R i j*x j)=b i)↔∃ v,y.holds v :=
 ⟨fun ⟨_,hx,hr⟩=>⟨_,h.to hx hr⟩,fun ⟨_,hv⟩=>have ⟨x,h1,h2,_⟩:=h.of hv; ⟨x,h1,h2⟩⟩
end Go.Proofs.YtcandeobhlfkbaaGreat.Simp
namespace Go.Proofs.YtcandeobhlfkbaaGreat.Simp
def red (t:Tab) (f:Nat->Rat):Nat->Nat->Rat
 | 0=>f
 | k+1=>fun j=>red t f k j - red t f k (t.B k)*t.T k j
def Ao0 (m:Nat) (t:Tab) (f:Nat->Rat):Tab:=⟨t.T,red t f m,t.B⟩
end Go.Proofs.YtcandeobhlfkbaaGreat.Simp
