/- Part 5. -/
import Derived.Test.YtcjffhadclngmaaGreatZC4
import Derived.Laws.AppendOwn
import Derived.Laws.OwnMore
import Derived.Laws.CopyRow
import Derived.IntWalk
open Array renaming getElem?_eq_some_iff->Ck,length_toList->I4,range->Xe,ext'->jW
open Bool renaming and_eq_true->Ci,false_eq_true->Ef,or_eq_true->Kn
open Go renaming sizeOf->lB
open Go.Addr renaming add->kA
open Go.Builtin renaming zeroCells->Ow,append_->O6,firstCells->kS,lenOf->kY
open Go.Instr renaming sureAddr->Sc,loadAt->jG
open Go.IntKind renaming i64->Ca
open Go.Obj renaming cells->jT
open Go.Obj.cells renaming injEq->kI
open Go.Result renaming andThen_ok->Fh
open Go.RowKit.Below renaming refl->Fp,cell->lD
open Go.Sem renaming run_bind->Fw
open Go.World renaming cell?->N5
open List renaming replicate->Cf,length_cons->Ch,length_append->Cm,cons_append->Cn,length_nil->Co,nil_append->Cq,mem_cons->Cv,getElem?_append_left->C3,mem_append->C5,append_assoc->Fa,all_eq_true->Fb,getElem?_append_right->Fc,getElem?_eq_some_iff->Fx,append_nil->Fy,eq_nil_of_length_eq_zero->Fz,flatten_cons->F3,length_take->Iu,getElem?_eq_getElem->Iw,getElem?_take->Od,getElem?_take_of_lt->Ot,all_cons->Uo,getElem?_toArray->Uu,take_add_one->V7,drop_append->iI,getElem?_drop->iY,set_append_right->jN,map_replicate->kT
open Nat renaming le_refl->Ce,zero_le->Cl,zero_add->El,lt_of_lt_of_le->F1,mul_le_mul_right->F2,lt_or_ge->Im,mul_le_mul->Iv,add_zero->I5,lt_succ_self->L3,succ_mul->Oa,zero_mul->Ov,mul_comm->Ox,add_mul->O7,le_succ->kC
open Option renaming map_eq_some_iff->Cd,map_some->C8,bind_some->Ou
open Option.some renaming injEq->A8
open Prod.mk renaming injEq->Cg
namespace Go.Proofs.YtcjffhadclngmaaGreat
section
open Go.RowKit
section
variable {P:Program}
theorem Qt {C:Cx} {t:TypeId} {sz:Nat} {bb:Bool} {b o:Nat} {cs:List AV} {vs:List Value} {av:AV} (hs:szOf P t=some sz) (ha:aggT P t=some bb) (hx:VRs C cs vs) (hl:∀ (j:Nat) (v:Value),vs[j]?=some v->C.w.cell? ⟨b,o+j,none⟩=some v)
  (h:partA bb sz cs=some av):Has P C (loadVar t ⟨b,o,none⟩) av:=by
 unfold partA at h;cases bb with
 | true =>
  simp only [if_true,Cd] at h;obtain ⟨ds,h1,rfl⟩:=h;obtain ⟨h2,h3⟩:=Ll hx h1;have tp:(vs.take sz).length=sz:=cD
  have:=run_loadCells_list (P:=P) C.w ⟨b,o,none⟩ (vs.take sz) (fun j v hj=>by
   rw [D9];refine hl j v ?_;rw [Od] at hj;split at hj
   ·exact hj
   ·simp at hj)
  rw [tp] at this;refine ⟨.agg (vs.take sz).toArray,by simp [loadVar,Wr ha,Gl hs,this],?_⟩;simp only [VR];exact ⟨_,rfl,h2⟩
 | false =>
  simp only [Ef,if_false] at h;obtain ⟨v,h1,h2⟩:=Xn hx h;refine ⟨v,?_,h2⟩;have:=hl 0 v h1;simp only [I5] at this;simp [loadVar,Wr ha,this]
theorem Af3 {C:Cx} : ∀ {a b:List AV} {l:List Value},VRs C (a++b) l->∃ l1 l2,l=l1++l2/\VRs C a l1/\VRs C b l2
 | [],b,l,h=>⟨[],l,rfl,bZ,h⟩
 | x :: a,b,v :: l,h=>by
  simp only [Cn,VRs] at h;obtain ⟨l1,l2,rfl,h1,h2⟩:=Af3 (a:=a) h.2;exact ⟨v :: l1,l2,rfl,by simp only [VRs]; exact ⟨h.1,h1⟩,h2⟩
 | _ :: _,_,[],h=>by simp only [Cn,VRs] at h
theorem entP {C:Cx} {cells:List AV} {l:List Value} (h:∃ vs r,l=vs++r/\VRs C cells vs):∃ p,VRs C (cells++p) l:=by
 obtain ⟨vs,r,rfl,h⟩:=h;exact ⟨_,Ht h (Y6 r)⟩
theorem Arz {C:Cx} {cells p:List AV} {l:List Value} (h:VRs C (cells++p) l):∃ vs r,l=vs++r/\VRs C cells vs:=by
 obtain ⟨l1,l2,e,h1,-⟩:=Af3 h;exact ⟨l1,l2,e,h1⟩
theorem Aql (p:List AV):∀ {cs:List AV} {o:Nat} {vs cs':List AV},over cs o vs=some cs'->over (cs++p) o vs=some (cs'++p)
 | cs,0,[],cs',h=>by
  have:cs=cs':=by cases cs <;> simpa [over] using h
  subst this;cases (cs++p) <;> rfl
 | c :: cs,k+1,vs,cs',h=>by
  exact Ya1h
 | _ :: cs,0,v :: vs,cs',h=>by
  exact Ya1h
 | [],0,_ :: _,_,h=>fQ
 | [],_+1,_,_,h=>fQ
theorem Aod (p:List AV):∀ {n:Nat} {cs x:List AV},takeN n cs=some x->takeN n (cs++p)=some x
 | 0,_,_,h=>by simpa [takeN] using h
 | n+1,[],_,h=>by simp [takeN] at h
 | n+1,c :: cs,x,h=>by
  simp only [takeN,Cd] at h;obtain ⟨y,h,rfl⟩:=h;simp only [Cn,takeN,Aod p h,C8]
theorem Avy (p:List AV) {b:Bool} {n:Nat} {cs:List AV} {x:AV} (h:partA b n cs=some x):partA b n (cs++p)=some x:=by
 unfold partA at h ⊢;cases b with
 | true =>
  simp only [if_true,Cd] at h ⊢;obtain ⟨y,h,rfl⟩:=h;exact ⟨y,Aod p h,rfl⟩
 | false =>
  simp only [Ef,if_false] at h ⊢;cases cs with
  | nil=>simp [nth] at h
  | cons c cs=>exact h
theorem D4 {S:List Ent} {id ep:Nat} {cs:List AV} (h:entAt S id ep=some cs):∃ e,nth S id=some e/\e.ep=ep/\e.cells=cs:=by
 unfold entAt at h;split at h
 ·rename_i e he;split at h
  ·rename_i r8; simp only [A8] at h; exact ⟨e,he,r8,h⟩
  ·simp at h
 ·simp at h
theorem Acp [Globs] {C:Cx} (ar:SR C) {t:TypeId} {a av:AV} {va:Value} (hx:VR C a va) (h:ldA P t a C.S=some av):Has P C (jG t va) av:=by
 unfold ldA at h;split at h
 ·rename_i sz bb hs ha;split at h
  ·rename_i cs;simp only [VR] at hx;obtain ⟨b,o,vs,rfl,hl,hp⟩:=hx;obtain ⟨v,h1,h2⟩:=Qt (b:=b) (o:=o) hs ha (Kx hp) (fun j v hj=>(Ly hl j v hj).1) h;exact ⟨v,by simpa [jG,Sc] using h1,h2⟩
  ·rename_i id ep off;split at h
   ·rename_i cs he;obtain ⟨e,h1,h2,rfl⟩:=D4 he;simp only [VR] at hx;obtain ⟨b,rfl,hn,hb⟩:=hx;obtain rfl:=hb e h1 h2;obtain ⟨-,arr,t',h3,h4⟩:=ar.ent id e h1;obtain ⟨p,h4⟩:=entP h4;obtain ⟨v,g1,g2⟩:=Qt (b:=C.φ id) (o:=off) hs ha (Na off h4) (fun j v hj=>by
     rw [iY] at hj;simp [N5,h3]; simpa using hj) (by rw [iI]; exact Avy _ h)
    exact ⟨v,by simpa [jG,Sc] using g1,g2⟩
   ·simp at h
  ·simp at h
 ·simp at h
theorem Er {α:Type} : ∀ {l:List α} {i:Nat} {v x:α},nth (put l i v) i=some x->x=v
 | _ :: _,0,_,_,h=>by simpa [put,nth] using h.symm
 | _ :: l,i+1,v,x,h=>Er (l:=l) (i:=i) (by simpa [put,nth] using h)
 | [],_,_,_,h=>by simp [put,nth] at h
theorem Ab {α:Type} : ∀ {l:List α} {i j:Nat} {v:α},i≠j->nth (put l i v) j=nth l j
 | _ :: _,0,0,_,h=>absurd rfl h
 | _ :: _,0,j+1,_,_=>rfl
 | _ :: _,i+1,0,_,_=>rfl
 | _ :: l,i+1,j+1,v,h=>Ab (l:=l) (i:=i) (j:=j) aA
 | [],_,_,_,_=>rfl
theorem Af {α:Type} {l:List α} {i:Nat} (h:i<l.length):∃ x,nth l i=some x:=⟨l[i],by rw [Ag]; exact Iw h⟩
theorem Afj:∀ {us l:List Value} {o:Nat},o+us.length<=l.length->sets l o us=l.take o++us++l.drop (o+us.length)
 | [],l,o,_=>by simp [sets]
 | u :: us,l,o,h=>by
  simp only [sets];simp only [Ch] at h;rw [Afj aD];have h1:(l.set o u).take (o+1)=l.take o++[u]:=by
   rw [List.take_set,V7];have:l[o]?=some (l[o]' aA):=Iw _;rw [this];simp only [Option.toList_some];rw [jN _ _ aD];simp [show min o l.length=o from by omega]
  have h2:(l.set o u).drop (o+1+us.length)=l.drop (o+(us.length+1)):=by
   rw [List.drop_set_of_lt aA];congr 1;omega
  rw [h1,h2];simp
theorem Qf {C:Cx} : ∀ {cs:List AV} {vs:List Value},VRs C cs vs->cs.all leafOk=true->∀ v ∈ vs,v.oneCell'=true
 | [],[],_,_=>by simp
 | c :: cs,v :: vs,h,hl=>by
  simp only [VRs] at h;simp only [Uo,Ci] at hl;intro u hu;rcases Cv.1 hu with rfl|hu
  ·cases c with
   | prim x=>have:=h.1; simp only [VR] at this; subst this; exact hl.1
   | bot=>simp [leafOk] at hl
   | agg _=>simp [leafOk] at hl
   | tup _=>simp [leafOk] at hl
   | frz _ _=>have:=h.1; simp only [VR] at this; obtain ⟨_,_,_,rfl,-⟩:=this; rfl
   | fptr _=>have:=h.1; simp only [VR] at this; obtain ⟨_,_,_,rfl,-⟩:=this; rfl
   | ref _ _ _=>have:=h.1; simp only [VR] at this; obtain ⟨_,rfl,-⟩:=this; rfl
   | sref _ _ _ _ _=>have:=h.1; simp only [VR] at this; obtain ⟨_,_,_,rfl,-⟩:=this; rfl
   | fn _ _=>have:=h.1; simp only [VR] at this; obtain ⟨_,rfl,-⟩:=this; rfl
   | bfn _ _=>have:=h.1; simp only [VR] at this; obtain ⟨_,rfl,-⟩:=this; rfl
   | ifc _ _=>have:=h.1; simp only [VR] at this; obtain ⟨_,rfl,-⟩:=this; rfl
   | mfn _ _ _=>have:=h.1; simp only [VR] at this; obtain ⟨_,rfl,-⟩:=this; rfl
   | lit _ _=>have:=h.1; simp only [VR] at this; obtain ⟨_,_,rfl,-⟩:=this; rfl
  ·exact Qf h.2 hl.2 u hu
 | [],_ :: _,h,_=>aT
 | _ :: _,[],h,_=>aT
theorem Le.of_store [Globs] {C:Cx} (ar:SR C) {id:Nat} {e e':Ent} {cs cs':Array Value} {t:TypeId} (he:nth C.S id=some e) (r8:e'.ep=e.ep) (hb:C.w.heap[C.φ id]?=some (.cells cs t (0,0))) (hsz:cs'.size=cs.size) :
  Le C { C with w:=C.w.setRow (C.φ id) cs',S:=put C.S id e' }:=by
 have hm:∀ o,C.Mut (C.φ id) o:=fun o=>.inl ⟨id,Br he,rfl⟩;refine ⟨rfl,rfl,rfl,by simp,rfl,Ce _,?_,?_,?_,?_,?_,fun _ k hk=>⟨k,hk,Ce _,fun _=>rfl⟩⟩
 ·rintro b o - (⟨i,hi,h⟩|h)
  ·exact .inl ⟨i,fG,h⟩
  ·exact .inr h
 ·intro b o v hv hn;have hne:b≠C.φ id:=fun h=>hn (h ▸ hm o);have:=setRow_other C.w (C.φ id) b cs' hne;simpa [N5,this] using hv
 ·intro b _ hn;exact setRow_other C.w (C.φ id) b cs' fun h=>hn 0 (h ▸ hm 0)
 ·intro b d t' fz hd;by_cases h:b=C.φ id
  ·subst h;rw [hb] at hd;simp only [A8,kI] at hd;obtain ⟨rfl,rfl,rfl⟩:=hd;exact ⟨cs',setRow_heap _ _ _ _ _ _ hb,hsz⟩
  ·exact ⟨d,Za4s,rfl⟩
 ·intro i x hx _;by_cases h:id=i
  ·subst h;have:=Er hx;subst this;exact ⟨e,he,r8.symm,rfl⟩
  ·rw [Ab h] at hx;exact ⟨x,hx,rfl,rfl⟩
theorem SR.of_store [Globs] {C:Cx} (ar:SR C) {id:Nat} {e e':Ent} {cs cs':Array Value} {t:TypeId} (he:nth C.S id=some e) (r8:e'.ep=e.ep) (hb:C.w.heap[C.φ id]?=some (.cells cs t (0,0))) (hsz:cs'.size=cs.size) (hv:∃ vs r,cs'.toList=vs++r/\VRs C e'.cells vs) :
  SR { C with w:=C.w.setRow (C.φ id) cs',S:=put C.S id e' }:=by
 have hle:=Le.of_store ar he r8 hb hsz;refine ⟨fun i x hx=>?_,fun i j hi hj h=>ar.ne i j fG (by simpa [Ai] using hj) h,ar.tok,fun i j o hi hj=>ar.apart i j o fG hj,?_,fun b o ha=>by have:=ar.avlt b o ha; simpa using this,fun i o hi h1 h2=>by have:=ar.tlt i o hi h1 h2; simpa using this,Rp ar hle⟩
 ·by_cases h:id=i
  ·subst h;have:=Er hx;subst this;obtain ⟨vs,r,hv1,vn⟩:=hv;exact ⟨by rw [r8]; exact (ar.ent id e he).1,cs',t,setRow_heap _ _ _ _ _ _ hb,vs,r,hv1,VRs.mono hle _ _ vn⟩
  ·have hx':nth C.S i=some x:=by rw [<- Ab h]; exact hx
   obtain ⟨h1,arr,t',h2,vs',r',yn,h3⟩:=ar.ent i x hx';refine ⟨h1,arr,t',?_,vs',r',yn,VRs.mono hle _ _ h3⟩;have hne:C.φ i≠C.φ id:=fun hh=>h (ar.ne i id (Br hx') (Br he) hh).symm;simpa [setRow_other _ _ _ _ hne] using h2
 ·rintro b o (⟨i,hi,h⟩|h)
  ·exact ar.own b o (.inl ⟨i,fG,h⟩)
  ·exact ar.own b o (.inr h)
theorem An6 [Globs] {C:Cx} (ar:SR C) {t:TypeId} {a x:AV} {va vx:Value} {S':List Ent} (ha:VR C a va) (hx:VR C x vx) (h:stA P t a x C.S=some S') :
  ∃ C',(Instr.storeAt t va vx).run P C.w=.ok () C'.w/\Le C C'/\SR C'/\C'.S=S'/\C'.tk=C.tk/\C'.n=C.n:=by
 unfold stA at h;split at h
 ·rename_i id ep off sz vs hs hc;split at h
  ·rename_i hh;split at h
   ·rename_i cs he;split at h
    ·rename_i cs' ho;simp only [A8] at h; subst h;obtain ⟨e,h1,h2,rfl⟩:=D4 he;simp only [VR] at ha;obtain ⟨b,rfl,hn,hb⟩:=ha;obtain rfl:=hb e h1 h2;obtain ⟨hlt,arr,t',h3,h4⟩:=ar.ent id e h1;obtain ⟨p,h4⟩:=entP h4;obtain ⟨h5,h6⟩:=La (Aql p ho);have hv:=Hg hc hx;have hl1:=Bc hv;have oq:=Bc h4;simp only [I4] at hl1 oq;have fj:off+0+vx.cells.toList.length<=arr.size:=aD
     have hrun:=run_storeCells_at P (C.φ id) off t' vx.cells.toList 0 arr C.w h3 fj (fun v hv'=>Qf hv hh.2 v hv');have a0a:=Afj (us:=vx.cells.toList) (l:=arr.toList) (o:=off) aD;have jh:VRs C (cs'++p) (arr.toList.take off++vx.cells.toList++arr.toList.drop (off+vx.cells.toList.length)):=by
      rw [<- a0a,h5]; exact Nb h4 hv
     refine ⟨{ C with w:=C.w.setRow (C.φ id) (arr.toList.take off++vx.cells.toList++arr.toList.drop (off+vx.cells.toList.length)).toArray,S:=put C.S id ⟨ep,cs'⟩ },?_,Le.of_store ar h1 h2.symm h3 ?_,SR.of_store ar h1 h2.symm h3 ?_ (Arz (by simpa using jh)),rfl,rfl,rfl⟩
     ·have e1:vx.cells.size=sz:=aA
      simp only [I5] at hrun;simp [Instr.storeAt,Sc,storeVar,Gl hs,e1,hrun]
     ·exact Ya15
     ·exact Ya15
    ·simp at h
   ·simp at h
  ·simp at h
 ·simp at h
def Cx.more (C:Cx) (arr:Array Value) (t:TypeId) (cs:List AV):Cx :=
 { C with w:=C.w.alloc (.cells arr t),φ:=fun i=>if i=C.S.length then C.w.heap.size else C.φ i,S:=C.S++[⟨C.n,cs⟩],n:=C.n+1 }
theorem Ls {α:Type} : ∀ {l:List α} {v x:α} {i:Nat},nth (l++[v]) i=some x->(i=l.length/\x=v)\/(i<l.length/\nth l i=some x)
 | [],v,x,0,h=>.inl ⟨rfl,by simpa [nth] using h.symm⟩
 | [],v,x,i+1,h=>bK
 | y :: l,v,x,0,h=>.inr ⟨by simp,h⟩
 | y :: l,v,x,i+1,h=>by
  rcases Ls (l:=l) (i:=i) h with ⟨h1,h2⟩|⟨h1,h2⟩
  ·exact .inl ⟨dB,h2⟩
  ·exact .inr ⟨aU,h2⟩
theorem Q1 [Globs] {C:Cx} (ar:SR C) {i:Nat} (h:i<C.S.length):C.φ i<C.w.heap.size:=by
 obtain ⟨e,he⟩:=Af h;obtain ⟨-,cs,t,h2,-⟩:=ar.ent i e he;exact (Ck.1 h2).1
theorem Le.more [Globs] {C:Cx} (ar:SR C) (arr:Array Value) (t:TypeId) (cs:List AV):Le C (C.more arr t cs):=by
 have hb:Below C.w.heap.size C.w (C.w.alloc (.cells arr t)):=(Fp _ _).alloc (Ce _) _;refine ⟨rfl,rfl,rfl,hb.size,rfl,kC _,?_,fun b o v hv _=>by rw [show (C.more arr t cs).w=C.w.alloc (.cells arr t) from rfl,lD hb (G5 hv)]; exact hv,fun b hlt _=>hb.block b hlt,fun b d t' fz hd=>⟨d,Dw hb hd,rfl⟩,?_,fun _ k hk=>⟨k,hk,Ce _,fun _=>rfl⟩⟩
 ·rintro b o hlt (⟨i,hi,h⟩|h)
  ·simp only [Cx.more] at hi h;split at h
   ·omega
   ·exact .inl ⟨i,cG,h⟩
  ·exact .inr h
 ·intro i x hx hn;rcases Ls hx with ⟨h1,h2⟩|⟨h1,h2⟩
  ·subst h2; simp at hn
  ·refine ⟨x,h2,rfl,?_⟩;simp only [Cx.more];rw [if_neg aA]
theorem SR.moreP [Globs] {C:Cx} (ar:SR C) {arr:Array Value} {t:TypeId} {cs:List AV} (hv:∃ vs r,arr.toList=vs++r/\VRs C cs vs):SR (C.more arr t cs):=by
 have hle:=Le.more ar arr t cs;have hb:Below C.w.heap.size C.w (C.w.alloc (.cells arr t)):=(Fp _ _).alloc (Ce _) _;refine ⟨fun i x hx=>?_,fun i j hi hj h=>?_,ar.tok,fun i j o hi hj h h1 h2=>?_,?_,fun b o ha=>F1 (ar.avlt b o ha) hb.size,fun i o hi h1 h2=>F1 (ar.tlt i o hi h1 h2) hb.size,Rp ar hle⟩
 ·rcases Ls hx with ⟨h1,rfl⟩|⟨h1,h2⟩
  ·obtain ⟨vs,r,hv1,vn⟩:=hv;refine ⟨L3 _,arr,t,?_,vs,r,hv1,VRs.mono hle _ _ vn⟩;simp only [Cx.more,h1,if_true];exact A0 _ _
  ·obtain ⟨g1,d,t',g2,vs',r',yn,g3⟩:=ar.ent i x h2;refine ⟨Nat.lt_succ_of_lt g1,d,t',?_,vs',r',yn,VRs.mono hle _ _ g3⟩;simp only [Cx.more];rw [if_neg aA];exact Dw hb g2
 ·simp only [Cx.more,Cm,Ch,Co] at hi hj h;by_cases bc:i=C.S.length <;> by_cases i7:j=C.S.length
  ·omega
  ·rw [if_pos bc,if_neg i7] at h;have:=Q1 ar (i:=j) aA; omega
  ·rw [if_neg bc,if_pos i7] at h;have:=Q1 ar (i:=i) aA; omega
  ·rw [if_neg bc,if_neg i7] at h;exact ar.ne i j aA aA h
 ·simp only [Cx.more,Cm,Ch,Co] at hi h hj h1 h2;by_cases bc:i=C.S.length
  ·rw [if_pos bc] at h;have:=ar.tlt j o hj h1 h2; omega
  ·rw [if_neg bc] at h;exact ar.apart i j o aA hj h h1 h2
 ·rintro b o (⟨i,hi,h⟩|h)
  ·simp only [Cx.more,Cm,Ch,Co] at hi h;by_cases bc:i=C.S.length
   ·rw [if_pos bc] at h;intro ha;have:=ar.avlt b o ha; omega
   ·rw [if_neg bc] at h;exact ar.own b o (.inl ⟨i,aA,h⟩)
  ·exact ar.own b o (.inr h)
theorem SR.more [Globs] {C:Cx} (ar:SR C) {arr:Array Value} {t:TypeId} {cs:List AV} (hv:VRs C cs arr.toList):SR (C.more arr t cs):=SR.moreP ar ⟨_,[],by simp,hv⟩
theorem Arm {C:Cx} {arr:Array Value} {t:TypeId} {cs:List AV} : VR (C.more arr t cs) (.ref C.S.length C.n 0) (.pointer (some ⟨C.w.heap.size,0,none⟩)):=by
 simp only [VR];refine ⟨_,rfl,L3 _,fun e he r8=>?_⟩;simp [Cx.more]
theorem Ws (w:World) (t e:TypeId) (i:TypeInfo) (ty:TypeId) (ht:P.underlying t=some (.slice e)) (hi:P.info? e=some i) (base a:Option Addr) (n cap c:Nat) (h:n<=cap) :
  (O6 #[t,t] ty #[.slice base n cap,.slice a 0 c]).run P w=.ok (.slice base n cap) w:=by
 cases base <;> cases a <;> simp [O6,Bv ht,lB,typeInfo,hi,kY,kS,loadCells,loadCellsFrom,h,storeCells]
theorem L4 (w:World) (t ty e:TypeId) (i:TypeInfo) (ht:P.underlying t=some (.slice e)) (hi:P.info? e=some i)
  (g sLen sCap:Nat) (t':TypeId) (cur:Array Value) (hg:w.heap[g]?=some (.cells cur t' (0,0)))
  (a:Addr) (m c:Nat) (news:List Value) (hl:news.length=m*i.size) (kz:∀ (j:Nat) u,news[j]?=some u->w.cell? (a.add j)=some u) (h1:∀ u ∈ news,u.oneCell'=true)
  (cz:sLen+m<=sCap) (fj:sLen*i.size+news.length<=cur.size) :
  (O6 #[t,t] ty #[.slice (some ⟨g,0,none⟩) sLen sCap,.slice (some a) m c]).run P w =
   .ok (.slice (some ⟨g,0,none⟩) (sLen+m) sCap) (w.setRow g (cur.toList.take (sLen*i.size)++news++cur.toList.drop (sLen*i.size+news.length)).toArray):=by
 have hf:=run_firstCells_some (P:=P) w i.size m a m c news hl kz;have aj:=run_storeCells_at P g (sLen*i.size) t' news 0 cur w hg (by simpa using fj) h1;simp only [I5] at aj;simp [O6,Bv ht,lB,typeInfo,hi,kY,cz,hf,D9,aj]
theorem Aum {w:World} {A:Nat->Nat->Prop} {c:AV} {v:Value} (h:PR w A c v):v.oneCell'=true:=by
 unfold PR at h;split at h
 ·rw [h.1]; exact h.2
 ·obtain ⟨_,_,_,rfl,-⟩:=h; rfl
 ·obtain ⟨_,_,_,rfl,-⟩:=h; rfl
 ·rw [h]; rfl
 ·exact h.elim
theorem Yp {w:World} {A:Nat->Nat->Prop} : ∀ {cs:List AV} {vs:List Value},PRs w A cs vs->∀ v ∈ vs,v.oneCell'=true
 | [],[],_=>by simp
 | c :: cs,v :: vs,h=>by
  simp only [PRs] at h;intro u hu;rcases Cv.1 hu with rfl|hu
  ·exact Aum h.1
  ·exact Yp h.2 u hu
 | [],_ :: _,h=>bL
 | _ :: _,[],h=>bL
def Cx.tok (C:Cx) (w:World) (c:Cap) (x:Nat × Nat × Nat):Cx :=
 match c with
 | .tok id ep _=>{ C with w:=w,tk:=put C.tk id (ep+1),ψ:=fun i=>if i=id then x else C.ψ i }
 | _=>{ C with w:=w,tk:=C.tk++[0],ψ:=fun i=>if i=C.tk.length then x else C.ψ i }
def J4 (C:Cx) (c:Cap):Nat:=match c with|.tok id _ _=>id|_=>C.tk.length
theorem N7 {C:Cx} {w:World} {c:Cap} {x:Nat × Nat × Nat} {sz:Nat} (h:Bn C.tk c sz=true):(C.tok w c x).w=w/\(C.tok w c x).av=C.av/\(C.tok w c x).φ=C.φ/\(C.tok w c x).S=C.S/\(C.tok w c x).n=C.n/\(C.tok w c x).tk=Gf C.tk c /\
  (C.tok w c x).ψ=(fun i=>if i=J4 C c then x else C.ψ i)/\C.tk.length<=(C.tok w c x).tk.length/\J4 C c<(C.tok w c x).tk.length/\(∀ i,i<(C.tok w c x).tk.length->i=J4 C c\/i<C.tk.length) /\
  (∀ i k,nth C.tk i=some k->∃ k',nth (C.tok w c x).tk i=some k'/\k<=k'/\(k'=k->i≠J4 C c)):=by
 cases c with
 | unk=>simp [Bn] at h
 | tight =>
  exact Ya04
 | nilc =>
  exact Ya04
 | nl=>simp [Bn] at h
 | nn=>simp [Bn] at h
 | tok id ep s =>
  simp only [Bn,Ci,beq_iff_eq] at h;refine ⟨rfl,rfl,rfl,rfl,rfl,rfl,rfl,by simp [Cx.tok,Ai],by simpa [Cx.tok,J4,Ai] using Br h.2,fun i hi=>by simp [Cx.tok,Ai] at hi; exact .inr hi,fun i k hk=>?_⟩;by_cases hi:id=i
  ·subst hi;rw [h.2] at hk; simp only [A8] at hk; subst hk;refine ⟨ep+1,?_,aA,fun h=>aA⟩;exact Ya1o
  ·refine ⟨k,?_,Ce _,fun _=>by simp [J4]; omega⟩;simp only [Cx.tok];rw [Ab hi]; exact hk
theorem Ln {C:Cx} {w:World} {c:Cap} {b lo hi sz len cap:Nat} {a:Option Addr} (h:Bn C.tk c sz=true)
  (hc:cap=len\/∃ cs t,a=some ⟨b,0,none⟩/\(b,lo,hi)=(b,len*sz,cap*sz)/\w.heap[b]?=some (.cells cs t (0,0))/\cap*sz<=cs.size):CapR (C.tok w c (b,lo,hi)) (A6 C.tk c sz) a len cap:=by
 cases c with
 | unk=>simp [Bn] at h
 | tight =>
  exact Ya4d
 | nilc =>
  exact Ya4d
 | nl=>simp [Bn] at h
 | nn=>simp [Bn] at h
 | tok id ep s =>
  simp only [Bn,Ci,beq_iff_eq] at h;refine ⟨ep+1,?_,Ce _,fun _=>?_⟩
  ·exact Ya1o
  ·exact Ya0o
def Nz (C:Cx) (c:Cap) (b lo hi:Nat):Prop:=hi<=lo\/C.w.heap.size<=b\/(∃ id ep s,c=.tok id ep s/\(C.ψ id).1=b/\(C.ψ id).2.1<=lo/\hi<=(C.ψ id).2.2)
theorem Up {C:Cx} {w:World} {c:Cap} {b lo hi sz:Nat} (h:Bn C.tk c sz=true) (hn:Nz C c b lo hi) {x o:Nat} (hm:(C.tok w c (b,lo,hi)).Mut x o):C.Mut x o\/(x=b/\lo<=o/\o<hi/\C.w.heap.size<=b):=by
 obtain ⟨e1,e2,e3,e4,e5,e6,e7,e8,e9,e10,e11⟩:=N7 (w:=w) (x:=(b,lo,hi)) h;rcases hm with ⟨i,bc,hx⟩|⟨i,bc,h1,h2,h3⟩
 ·exact .inl (.inl ⟨i,by rwa [e4] at bc,by rwa [e3] at hx⟩)
 ·rw [e7] at h1 h2 h3;dsimp only at h1 h2 h3;by_cases hid:i=J4 C c
  ·rw [if_pos hid] at h1 h2 h3;simp only at h1 h2 h3;rcases hn with hn|hn|⟨id,ep,s,rfl,g1,g2,g3⟩
   ·omega
   ·exact .inr ⟨h1.symm,h2,h3,hn⟩
   ·refine .inl (.inr ⟨id,?_,by rw [g1,h1],aA,aA⟩);simp only [Bn,Ci,beq_iff_eq] at h;exact Br h.2
  ·rw [if_neg hid] at h1 h2 h3;refine .inl (.inr ⟨i,?_,h1,h2,h3⟩);rcases e10 i bc with hh|hh
   ·exact absurd hh hid
   ·exact hh
theorem Le.of_tok {C:Cx} {w:World} {c:Cap} {b lo hi sz:Nat} (h:Bn C.tk c sz=true) (hn:Nz C c b lo hi) (hos:w.os=C.w.os) (a0b:w.tape=C.w.tape) (cl:w.output=C.w.output) (a0c:C.w.heap.size<=w.heap.size)
  (hcell:∀ x o v,C.w.cell? ⟨x,o,none⟩=some v->¬ C.Mut x o->w.cell? ⟨x,o,none⟩=some v) (ot:∀ x,x<C.w.heap.size->(∀ o,¬ C.Mut x o)->w.heap[x]?=C.w.heap[x]?)
  (vr:∀ (b:Nat) (cs:Array Value) (t:TypeId) (fz:Nat × Nat),C.w.heap[b]?=some (jT cs t fz)->∃ cs':Array Value,w.heap[b]?=some (jT cs' t fz)/\cs'.size=cs.size):Le C (C.tok w c (b,lo,hi)):=by
 obtain ⟨e1,e2,e3,e4,e5,e6,e7,e8,e9,e10,e11⟩:=N7 (w:=w) (x:=(b,lo,hi)) h;refine ⟨by rw [e1,hos],by rw [e1,a0b],by rw [e1,cl],by rw [e1]; exact a0c,e2,by rw [e5]; exact Ce _,fun x o hlt hm=>?_,by rw [e1]; exact hcell,by rw [e1]; exact ot,by rw [e1]; exact vr,fun i x hx _=>⟨x,by rwa [e4] at hx,rfl,by rw [e3]⟩,fun i k hk=>?_⟩
 ·rcases Up h hn hm with h'|⟨rfl,-,-,h'⟩
  ·exact h'
  ·omega
 ·obtain ⟨k',g1,g2,g3⟩:=e11 i k hk;exact ⟨k',g1,g2,fun e=>by rw [e7]; simp only; rw [if_neg (g3 e)]⟩
theorem SR.of_tok [Globs] {C:Cx} (ar:SR C) {w:World} {c:Cap} {b lo hi sz:Nat} (h:Bn C.tk c sz=true) (hn:Nz C c b lo hi) (hlt:lo<hi->b<w.heap.size) (hle:Le C (C.tok w c (b,lo,hi)))
  (a0d:∀ i,i<C.S.length->w.heap[C.φ i]?=C.w.heap[C.φ i]?):SR (C.tok w c (b,lo,hi)):=by
 obtain ⟨e1,e2,e3,e4,e5,e6,e7,e8,e9,e10,e11⟩:=N7 (w:=w) (x:=(b,lo,hi)) h;have old:∀ i,i<(C.tok w c (b,lo,hi)).tk.length->i≠J4 C c->i<C.tk.length:=fun i bc hne=>(e10 i bc).resolve_left hne;have key:∀ o,lo<=o->o<hi->(∀ j,j<C.tk.length->j≠J4 C c->(C.ψ j).1=b->(C.ψ j).2.1<=o->o<(C.ψ j).2.2->False)/\(∀ i,i<C.S.length->C.φ i=b->False)/\¬ C.av b o:=by
  intro o h1 h2;rcases hn with hn|hn|⟨id,ep,s,rfl,g1,g2,g3⟩
  ·omega
  ·refine ⟨fun j hj _ hb k1 k2=>?_,fun i bc hb=>?_,fun ha=>?_⟩
   ·have:=ar.tlt j o hj k1 k2; omega
   ·have:=Q1 ar bc; omega
   ·have:=ar.avlt b o ha; omega
  ·simp only [Bn,Ci,beq_iff_eq] at h;have hid:=Br h.2;refine ⟨fun j hj hne hb k1 k2=>hne (ar.tok j id o hj hid (by rw [hb,g1]) k1 k2 aA aA),fun i bc hb=>ar.apart i id o bc hid (by rw [hb,g1]) aA aA,ar.own b o (.inr ⟨id,hid,g1,aA,aA⟩)⟩
 refine ⟨fun i x hx=>?_,fun i j bc hj hh=>?_,fun i j o bc hj hh h1 h2 h3 h4=>?_,fun i j o bc hj hh h1 h2=>?_,fun x o hm=>?_,fun x o ha=>?_,fun i o bc h1 h2=>?_,Rp ar hle⟩
 ·rw [e4] at hx;obtain ⟨g1,arr,t,g2,vs',r',yn,g3⟩:=ar.ent i x hx;refine ⟨by rw [e5]; exact g1,arr,t,by rw [e1,e3,a0d i (Br hx)]; exact g2,vs',r',yn,VRs.mono hle _ _ g3⟩
 ·rw [e4] at bc hj; rw [e3] at hh;exact ar.ne i j bc hj hh
 ·rw [e7] at hh h1 h2 h3 h4;simp only at hh h1 h2 h3 h4;by_cases hit:i=J4 C c <;> by_cases k8:j=J4 C c
  ·rw [hit,k8]
  ·rw [if_pos hit] at hh h1 h2; rw [if_neg k8] at hh h3 h4;simp only at hh h1 h2;exact ((key o h1 h2).1 j (old j hj k8) k8 hh.symm h3 h4).elim
  ·rw [if_neg hit] at hh h1 h2; rw [if_pos k8] at hh h3 h4;simp only at hh h3 h4;exact ((key o h3 h4).1 i (old i bc hit) hit hh h1 h2).elim
  ·rw [if_neg hit] at hh h1 h2; rw [if_neg k8] at hh h3 h4;exact ar.tok i j o (old i bc hit) (old j hj k8) hh h1 h2 h3 h4
 ·rw [e4] at bc; rw [e3,e7] at hh; rw [e7] at h1 h2;simp only at hh h1 h2;by_cases k8:j=J4 C c
  ·rw [if_pos k8] at hh h1 h2;simp only at hh h1 h2;exact (key o h1 h2).2.1 i bc hh
  ·rw [if_neg k8] at hh h1 h2;exact ar.apart i j o bc (old j hj k8) hh h1 h2
 ·rw [e2];rcases Up h hn hm with h'|⟨rfl,h1,h2,h3⟩
  ·exact ar.own x o h'
  ·exact (key o h1 h2).2.2
 ·rw [e2] at ha; rw [e1];have:=ar.avlt x o ha;have:=hle.size;rw [e1] at this;omega
 ·rw [e7] at h1 h2 ⊢; rw [e1];simp only at h1 h2 ⊢;by_cases hit:i=J4 C c
  ·rw [if_pos hit] at h1 h2 ⊢;exact hlt (by simp only at h1 h2; omega)
  ·rw [if_neg hit] at h1 h2 ⊢;have h3:=ar.tlt i o (old i bc hit) h1 h2;have h4:=hle.size;rw [e1] at h4;omega
theorem Y7 {t:TypeId} {sz:Nat} (h:apT P t=some sz):∃ e i z,P.underlying t=some (.slice e)/\P.info? e=some i/\i.zero=some z/\i.size=sz/\0<sz/\z.cells.size=sz/\i.bytes<=1048576/\(sz=3->i.bytes<=40):=by
 unfold apT at h;split at h
 ·rename_i e he;split at h
  ·rename_i s z i hs hz hi;split at h
   ·rename_i hh;simp only [A8] at h; subst h;simp only [szOf,hi,C8,A8] at hs;simp only [A3,hi,Ou,Cd] at hz;obtain ⟨v,hv,rfl⟩:=hz;exact ⟨e,i,v,Eb he,hi,hv,hs,aA,by simpa using hh.1,hh.2.1,fun e=>hh.2.2 aA⟩
   ·simp at h
  ·simp at h
 ·simp at h
theorem Qk {sz:Nat} : ∀ {es:List (List AV)},Dk sz es=true->(∀ e ∈ es,e.length=sz):=by
 intro es h e he;simp only [Dk,Fb,beq_iff_eq] at h;exact h e he
def Src (C:Cx) (ys:List (List AV)) (vy:Value):Prop:=∃ a m cap,vy=.slice a m cap/\ys.length=m/\(m=0\/∃ b o news,a=some ⟨b,o,none⟩/\PRs C.w C.Avoid ys.flatten news/\∀ (j:Nat) u,news[j]?=some u->C.w.cell? ⟨b,o+j,none⟩=some u)
theorem Agw {sz:Nat} : ∀ {l:List (List AV)},(∀ e ∈ l,e.length=sz)->l.flatten.length=l.length*sz
 | [],_=>by simp
 | e :: l,h=>by
  rw [F3,Cm,h e (by simp),Agw (l:=l) fun x hx=>h x bM,Ch,Oa]; omega
theorem Abe [Globs] {C:Cx} (ar:SR C) {t ty:TypeId} {x y av:AV} {vx vy:Value} {tk':List Nat} {ys0:List (List AV)} {c20:Cap} (hx:VR C x vx) (ng:y=.frz ys0 c20) (a2i:Src C ys0 vy) (h:apA P t x y C.tk=some (av,tk')) :
  ∃ v C',(O6 #[t,t] ty #[vx,vy]).run P C.w=.ok v C'.w/\Le C C'/\SR C'/\C'.S=C.S/\C'.tk=tk'/\C'.n=C.n/\VR C' av v:=by
 unfold apA at h;split at h
 ·rename_i es c ys c2 sz hT;simp only [AV.frz.injEq] at ng;obtain ⟨rfl,rfl⟩:=ng;split at h
  ·rename_i hh;obtain ⟨ah,b9,hry,cz⟩:=hh;simp only [A8,Cg] at h;obtain ⟨rfl,rfl⟩:=h;obtain ⟨e,i,z,hu,hi,hz,hsz,hpos,yb,hby,a37⟩:=Y7 hT;simp only [VR] at hx;obtain ⟨a,len,cap,rfl,hlen,hcap,hC,hE⟩:=hx;obtain ⟨a2,m,cap2,rfl,hm,hY⟩:=a2i;simp only [Ano,Kn,Ci,beq_iff_eq,decide_eq_true_eq] at cz;have ji:∃ olds:List Value,olds.length=len*sz/\PRs C.w C.Avoid es.flatten olds/\(olds=[]\/∃ b o,a=some ⟨b,o,none⟩/\Lie C.w C.Avoid b o olds):=by
    rcases hE with rfl|⟨b,o,s',rfl,hr⟩
    ·exact ⟨[],by simp at hlen; simp [<- hlen],by simp [PRs],.inl rfl⟩
    ·by_cases hne:es=[]
     ·subst hne; exact ⟨[],by simp at hlen; simp [<- hlen],by simp [PRs],.inl rfl⟩
     ·have:=Pr hr b9 hne;subst this;obtain ⟨l,g1,g2,g3⟩:=Hs hr;exact ⟨l,by rw [g1,hlen],g2,.inr ⟨b,o,rfl,g3⟩⟩
   obtain ⟨olds,fc,ja,u5⟩:=ji;by_cases bh:m=0
   ·subst bh;have hys:ys=[]:=Fz hm;subst hys;have hrun:=Ws (P:=P) C.w t e i ty hu hi a a2 len cap cap2 hcap;obtain ⟨b,lo,bc,hn,hc⟩:∃ b lo bc,Nz C c b lo bc/\(lo<bc->b<C.w.heap.size)/\(cap=len\/∃ cs t,a=some ⟨b,0,none⟩/\(b,lo,bc)=(b,len*sz,cap*sz)/\C.w.heap[b]?=some (.cells cs t (0,0))/\cap*sz<=cs.size):=by
     cases c with
     | unk=>simp [Bn] at ah
     | tight=>exact ⟨0,0,0,.inl (Ce _),aA,.inl hC⟩
     | nilc=>exact ⟨0,0,0,.inl (Ce _),aA,.inl hC.2⟩
     | nl=>simp [Bn] at ah
     | nn=>simp [Bn] at ah
     | tok id ep s =>
      simp only [Bn,Ci,beq_iff_eq] at ah;obtain ⟨rfl,ah⟩:=ah;obtain ⟨k,h1,h2,h3⟩:=hC;rw [ah] at h1; simp only [A8] at h1; subst h1;rcases h3 rfl with h3|⟨b,cs,t',g1,g2,g3,g4⟩
      ·exact ⟨0,0,0,.inl (Ce _),aA,.inl h3⟩
      ·exact ⟨b,len*s,cap*s,.inr (.inr ⟨id,ep,s,rfl,by rw [g2],by rw [g2]; exact Ce _,by rw [g2]; exact Ce _⟩),fun _=>(Ck.1 g3).1,.inr ⟨cs,t',g1,rfl,g3,g4⟩⟩
    have hle:Le C (C.tok C.w c (b,lo,bc)):=Le.of_tok ah hn rfl rfl rfl (Ce _) (fun _ _ _ h _=>h) (fun _ _ _=>rfl) (fun _ cs _ _ h=>⟨cs,h,rfl⟩);obtain ⟨e1,e2,e3,e4,e5,e6,-⟩:=N7 (w:=C.w) (x:=(b,lo,bc)) ah;refine ⟨.slice a len cap,C.tok C.w c (b,lo,bc),Za60,hle,SR.of_tok ar ah hn hc.1 hle (fun _ _=>rfl),e4,e6,e5,?_⟩;simp only [VR,Fy];refine ⟨a,len,cap,rfl,hlen,hcap,Ln ah hc.2,hE.imp id ?_⟩;rintro ⟨b,o,s',rfl,hr⟩;exact ⟨b,o,s',rfl,Da.stays hle.stays _ _ _ _ hr⟩
   ·obtain ⟨b2,o2,news,rfl,bm,a1r⟩:=hY.resolve_left bh;have bo:news.length=m*sz:=by rw [<- M6 bm,Agw (Qk hry),hm]
    have dm:=Yp bm;have j9:∀ (j:Nat) u,news[j]?=some u->C.w.cell? (kA ⟨b2,o2,none⟩ j)=some u:=fun j u hj=>by rw [D9]; exact a1r j u hj
    have jj:∀ e ∈ es++ys,e.length=sz:=fun x hx=>by
     rcases C5.1 hx with hx|hx
     ·exact Qk b9 x hx
     ·exact Qk hry x hx
    by_cases ik:(∃ id ep s b cs t',c=.tok id ep s/\nth C.tk id=some ep/\s=sz/\a=some ⟨b,0,none⟩/\C.ψ id=(b,len*sz,cap*sz)/\C.w.heap[b]?=some (.cells cs t' (0,0))/\cap*sz<=cs.size)/\len+m<=cap
    ·obtain ⟨⟨id,ep,s,b,arr,t',rfl,hid,rfl,rfl,hψ,hb,fj⟩,ke⟩:=ik;have k9:(len+m)*s<=cap*s:=F2 _ ke;have a2j:(len+m)*s=len*s+m*s:=O7 _ _ _;have hms:0<m*s:=Nat.mul_pos aA hpos;have hrun:=L4 (P:=P) C.w t ty e i hu hi b len cap t' arr hb ⟨b2,o2,none⟩ m cap2 news dH j9 dm ke (by rw [hsz,bo]; omega);rw [hsz] at hrun;generalize hA:(arr.toList.take (len*s)++news++arr.toList.drop (len*s+news.length)).toArray=arr' at hrun;have o3:arr'.size=arr.size:=by rw [<- hA]; simp; omega
     have a2k:∀ o,(o<len*s\/(len+m)*s<=o)->arr'[o]?=arr[o]?:=by
      intro o ho;rw [<- hA];simp only [Uu];rcases ho with ho|ho
      ·rw [Fa,C3 aD,Ot ho]; simp
      ·rw [Fc aD,iY,<- Array.getElem?_toList];congr 1;simp;omega
     have hlt:b<C.w.heap.size:=(Ck.1 hb).1;have eg:=Br hid;have vt:∀ o,len*s<=o->o<cap*s->C.Mut b o:=fun o h1 h2=>.inr ⟨id,eg,by rw [hψ],Za6i,by rw [hψ]; exact h2⟩;have hn:Nz C (.tok id ep s) b ((len+m)*s) (cap*s):=.inr (.inr ⟨id,ep,s,rfl,by rw [hψ],eX,by rw [hψ]; exact Ce _⟩);have hle:Le C (C.tok (C.w.setRow b arr') (.tok id ep s) (b,(len+m)*s,cap*s)):=by
      refine Le.of_tok ah hn rfl rfl rfl (by simp) ?_ ?_ ?_
      ·intro x o v hv eh;by_cases u6:x=b
       ·subst u6;have:o<len*s\/(len+m)*s<=o:=by
         rcases Im o (len*s) with h|h
         ·exact .inl h
         ·right;rcases Im o (cap*s) with h'|h'
          ·exact absurd (vt o h h') eh
          ·omega
        have h1:=setRow_heap C.w x arr arr' t' (0,0) hb;simp only [N5,hb] at hv;simp only [N5,h1,a2k o this];exact hv
       ·simpa [N5,setRow_other C.w b x arr' u6] using hv
      ·intro x _ eh;refine setRow_other C.w b x arr' fun h=>eh (len*s) (h ▸ vt _ (Ce _) aA)
      ·intro x d t'' fz hd;by_cases u6:x=b
       ·subst u6;rw [hb] at hd;simp only [A8,kI] at hd;obtain ⟨rfl,rfl,rfl⟩:=hd;exact ⟨arr',setRow_heap _ _ _ _ _ _ hb,o3⟩
       ·exact ⟨d,by rw [setRow_other _ _ _ _ u6]; exact hd,rfl⟩
     obtain ⟨e1,e2,e3,e4,e5,e6,e7,e8,e9,e10,e11⟩:=N7 (w:=C.w.setRow b arr') (x:=(b,(len+m)*s,cap*s)) ah;have vu:=SR.of_tok ar ah hn (fun _=>aQ) hle (fun i hi=>setRow_other _ _ _ _ fun h=>ar.apart i id (len*s) hi eg (by rw [hψ]; exact h) (by rw [hψ]; exact Ce _) eX);refine ⟨.slice (some ⟨b,0,none⟩) (len+m) cap,_,Za60,hle,vu,e4,e6,e5,?_⟩;have z6:(C.w.setRow b arr').heap[b]?=some (.cells arr' t' (0,0)):=setRow_heap _ _ _ _ _ _ hb;simp only [VR];refine ⟨_,len+m,cap,rfl,aD,ke,Ln ah (.inr ⟨arr',t',rfl,rfl,z6,aA⟩),.inr ⟨b,0,s,rfl,?_⟩⟩;have aj:=hle.stays;refine He (l:=olds++news) jj Za15 (Lz fun j v hj=>?_);rw [El];rcases Im j olds.length with hjo|hjo
     ·rw [C3 hjo] at hj;rcases u5 with rfl|⟨b',o',ha,hl⟩
      ·simp at hjo
      ·simp only [A8,Addr.mk.injEq,and_true] at ha;obtain ⟨rfl,rfl⟩:=ha;have:=Ly (hl.stays aj) j v hj;exact Ya1d
     ·rw [Fc hjo] at hj;have hjn:=(Fx.1 hj).1;have h1:len*s<=j:=aA
      have h2:j<(len+m)*s:=aA
      constructor
      ·rw [e1];simp only [N5,z6];have:arr'[j]?=some v:=by
        rw [<- hA];simp only [Uu];rw [C3 aD,Fc aD];rw [<- hj]; congr 1; simp; omega
       exact Ya1d
      ·rintro (fy|⟨k,hk,hφ⟩|⟨k,hk,g1,g2,g3⟩)
       ·rw [e2] at fy;exact ar.own b j (vt j h1 aA) fy
       ·rw [e4] at hk; rw [e3] at hφ;exact ar.apart k id j hk eg (by rw [hψ]; exact hφ) Za6i eX
       ·rw [e7] at g1 g2 g3;dsimp only at g1 g2 g3;by_cases sa:k=id
        ·rw [if_pos (show k=J4 C (.tok id ep s) from sa)] at g1 g2 g3;simp only at g2; omega
        ·rw [if_neg (show ¬ k=J4 C (.tok id ep s) from sa)] at g1 g2 g3;have hk':=(e10 k hk).resolve_left sa;exact sa (ar.tok k id j hk' eg (by rw [hψ]; exact g1) g2 g3 Za6i eX)
    ·have j2:cap<len+m:=by
      rcases Im cap (len+m) with h|h
      ·exact h
      ·exfalso;cases c with
       | unk=>simp [Bn] at ah
       | tight=>have:cap=len:=hC; omega
       | nilc=>have:cap=len:=hC.2; omega
       | nl=>simp [Bn] at ah
       | nn=>simp [Bn] at ah
       | tok id ep s =>
        simp only [Bn,Ci,beq_iff_eq] at ah;obtain ⟨rfl,ah⟩:=ah;obtain ⟨k,h1,h2,h3⟩:=hC;rw [ah] at h1; simp only [A8] at h1; subst h1;rcases h3 rfl with h3|⟨b,cs,t',g1,g2,g3,g4⟩
        ·omega
        ·exact ik ⟨⟨id,ep,s,b,cs,t',rfl,ah,rfl,g1,g2,g3,g4⟩,h⟩
     have k9:len*sz+m*sz=(len+m)*sz:=(O7 _ _ _).symm;have jk:(len+m)*i.bytes<=140737488355328:=by
      rcases cz with cz|⟨h3,cz⟩
      ·have:(len+m)*i.bytes<=1048576*1048576:=Iv aA hby
       omega
      ·have:(len+m)*i.bytes<=3518437208883*40:=Iv aA (a37 h3);omega
     obtain ⟨ncap,zs,hrun,mf,hzl⟩:∃ ncap zs,(O6 #[t,t] ty #[.slice a len cap,.slice (some ⟨b2,o2,none⟩) m cap2]).run P C.w=.ok (.slice (some ⟨C.w.heap.size,0,none⟩) (len+m) ncap) (C.w.drew.alloc (.cells (olds++news++zs).toArray e))/\len+m<=ncap/\zs.length=(ncap - (len+m))*sz:=by
      cases a with
      | none =>
       have a0e:len=0:=by
        rcases u5 with h|⟨b,o,h,-⟩
        ·rw [h] at fc;simp only [Co] at fc;rcases Nat.mul_eq_zero.1 fc.symm with h|h
         ·exact h
         ·omega
        ·simp at h
       have a0f:cap=0:=by
        cases c with
        | unk=>simp [Bn] at ah
        | tight=>have:cap=len:=hC; omega
        | nilc=>have:cap=len:=hC.2; omega
        | nl=>simp [Bn] at ah
        | nn=>simp [Bn] at ah
        | tok id ep s =>
         simp only [Bn,Ci,beq_iff_eq] at ah;obtain ⟨k,h1,h2,h3⟩:=hC;rw [ah.2] at h1; simp only [A8] at h1; subst h1;rcases h3 rfl with h3|⟨b,cs,t',g1,-⟩
         ·omega
         ·simp at g1
       subst a0e a0f;have ho:olds=[]:=Fz (by simpa using fc);subst ho;have:=run_append_nil (P:=P) C.w t ty e i z hu hi hz ⟨b2,o2,none⟩ m cap2 news dH j9 aA aA (by simp only [El] at jk; omega);refine ⟨grownCap C.w m 0 e,(Ow z.cells (grownCap C.w m 0 e - m)).toList,?_,by have:=grownCap_ge C.w m 0 e; omega,by simp [size_zeroCells,yb]⟩;rw [this];simp only [El,Cq];congr 3;apply jW; simp
      | some ad =>
       obtain ⟨b,o,hab,hcells⟩:∃ b o,(olds=[]\/ad=⟨b,o,none⟩)/\∀ (j:Nat) v,olds[j]?=some v->C.w.cell? (ad.add j)=some v:=by
        rcases u5 with rfl|⟨b,o,h,hl⟩
        ·exact ⟨0,0,.inl rfl,by simp⟩
        ·simp only [A8] at h; subst h;exact ⟨b,o,.inr rfl,fun j v hj=>by rw [D9]; exact (Ly hl j v hj).1⟩
       have:=run_append_grow (P:=P) C.w t ty e i z hu hi hz ad len cap olds (by rw [hsz]; exact fc) hcells ⟨b2,o2,none⟩ m cap2 news dH j9 j2 aA (growslice_fits j2 jk);refine ⟨grownCap C.w (len+m) cap e,(Ow z.cells (grownCap C.w (len+m) cap e - (len+m))).toList,?_,grownCap_ge C.w (len+m) cap e,by simp [size_zeroCells,yb]⟩;rw [this];congr 3;apply jW; simp
     have hbel:Below C.w.heap.size C.w (C.w.drew.alloc (.cells (olds++news++zs).toArray e)):=((Fp _ _).drew).alloc (by simp) _;have jx:(C.w.drew.alloc (.cells (olds++news++zs).toArray e)).heap[C.w.heap.size]?=some (.cells (olds++news++zs).toArray e (0,0)):=A0 C.w.drew _;have hn:Nz C c C.w.heap.size ((len+m)*sz) (ncap*sz):=.inr (.inl (Ce _));have hle:Le C (C.tok (C.w.drew.alloc (.cells (olds++news++zs).toArray e)) c (C.w.heap.size,(len+m)*sz,ncap*sz)) :=
      Le.of_tok ah hn hbel.os hbel.tape hbel.output hbel.size (fun b o v hv _=>Za4h) (fun b hb _=>hbel.block b hb) (fun b cs t fz hb=>⟨cs,Dw hbel hb,rfl⟩)
     have vu:=SR.of_tok ar ah hn (fun _=>(Ck.1 jx).1) hle (fun i hi=>hbel.block _ (Q1 ar hi));obtain ⟨e1,e2,e3,e4,e5,e6,e7,e8,e9,e10,e11⟩:=N7 (w:=C.w.drew.alloc (.cells (olds++news++zs).toArray e)) (x:=(C.w.heap.size,(len+m)*sz,ncap*sz)) ah;refine ⟨_,_,Za60,hle,vu,e4,e6,e5,?_⟩;have hzz:(ncap - (len+m))*sz=ncap*sz - (len+m)*sz:=Nat.sub_mul _ _ _;have hnn:(len+m)*sz<=ncap*sz:=F2 _ mf;simp only [VR];refine ⟨_,len+m,ncap,rfl,aD,mf,Ln ah (.inr ⟨_,e,rfl,rfl,jx,aD⟩),.inr ⟨C.w.heap.size,0,sz,rfl,?_⟩⟩;have aj:=hle.stays;refine He (l:=olds++news) jj Za15 (Lz fun j v hj=>?_);rw [El];have gj:j<(len+m)*sz:=by
      exact Ya1s
     constructor
     ·rw [e1];simp only [N5,jx];have a2l:j<(olds++news).length:=(Fx.1 hj).1;have:(olds++news++zs)[j]?=some v:=by rw [C3 a2l]; exact hj
      exact Ya1d
     ·rintro (fy|gf)
      ·rw [e2] at fy;have:=ar.avlt _ _ fy; omega
      ·rcases Up ah hn gf with h|⟨-,h1,h2,-⟩
       ·exact ar.fresh (Ce _) (.inr h)
       ·omega
  ·simp at h
 ·simp at h
theorem Akm [Globs] {C:Cx} (ar:SR C) {t ty:TypeId} {x y av:AV} {vx vy:Value} {tk':List Nat} (hx:VR C x vx) (hy:VR C y vy) (h:apA P t x y C.tk=some (av,tk')) :
  ∃ v C',(O6 #[t,t] ty #[vx,vy]).run P C.w=.ok v C'.w/\Le C C'/\SR C'/\C'.S=C.S/\C'.tk=tk'/\C'.n=C.n/\VR C' av v:=by
 have h0:=h;unfold apA at h;split at h
 ·rename_i es c ys c2 sz hT;refine Abe ar hx rfl ?_ h0;simp only [VR] at hy;obtain ⟨a,m,cap,rfl,hm,-,-,hY⟩:=hy;refine ⟨a,m,cap,rfl,hm,?_⟩;rcases hY with rfl|⟨b,o,s',rfl,hr⟩
  ·left; simpa using hm.symm
  ·right;obtain ⟨l,g1,g2,g3⟩:=Hs hr;exact ⟨b,o,l,rfl,g2,fun j u hj=>(Ly g3 j u hj).1⟩
 ·simp at h
theorem Aad {w:World} {e:TypeId} {z:List AV} {s m:Nat} (hz:A3 P e=some z) (yb:z.length=s) (mg:0<s) :
  ∃ (zv:Value) (arr:Array Value),(zeroValue e).run P w=.ok zv w/\arr.toList.map cst1=(Cf m z).flatten/\(m*s=0->arr=#[])/\(m*s≠0->arr=(Xe (m*s)).map fun x=>zv.cells[x % zv.cells.size]!):=by
 obtain ⟨zv,hz1,rfl⟩:=Li (w:=w) hz;have hl:zv.cells.toList.length=s:=by simpa using yb
 have tp:zv.cells.size=s:=cI
 by_cases hm:m*s=0
 ·have bh:m=0:=by
   rcases Nat.mul_eq_zero.1 hm with h|h
   ·exact h
   ·omega
  exact ⟨zv,#[],hz1,by simp [bh],fun _=>rfl,fun h=>absurd hm h⟩
 ·refine ⟨zv,(Xe (m*s)).map fun x=>zv.cells[x % zv.cells.size]!,hz1,?_,fun h=>absurd h hm,fun _=>rfl⟩;have:=Wk zv.cells.toList s hl mg m;have e1:((Xe (m*s)).map (zv.cells[· % zv.cells.size]!)).toList=(Cf m zv.cells.toList).flatten:=by
   rw [<- this];simp [tp,Array.toList_range];intro a _; rw [getElem!_def]; cases zv.cells[a % s]? <;> rfl
  rw [e1,List.map_flatten,kT]
theorem Amt {C:Cx} {t:TypeId} {l c:AV} {vl vc:Value} {n sz:Nat} {cs:List AV} (hl:VR C l vl) (hc:VR C c vc) (h:mkA P t l c=some (n,sz,cs)) :
  ∃ (e:TypeId) (m:Nat) (arr:Array Value),(Instr.makeSlice t vl vc).run P C.w=.ok (.slice (some ⟨C.w.heap.size,0,none⟩) n m) (C.w.alloc (.cells arr e))/\arr.toList.map cst1=cs/\n<=m/\cs.length=m*sz/\intN l=some n:=by
 unfold mkA mkB at h;split at h
 ·rename_i l' c' sz' z b h1 h2 h3 h4 h5;split at h
  ·rename_i hh;simp only [A8,Cg] at h;obtain ⟨rfl,rfl,rfl⟩:=h;obtain ⟨g1,g2,g3,g4⟩:=hh;cases he:Be P t with
   | none=>rw [he] at h3; simp at h3
   | some e =>
    rw [he] at h3 h4 h5;simp only [Ou] at h3 h4 h5;obtain ⟨kl,rfl⟩:=E7 h1 hl;obtain ⟨kc,rfl⟩:=E7 h2 hc;obtain ⟨zv,arr,r1,r2,r3,r4⟩:=Aad (w:=C.w) (m:=c') h4 g4 aA;refine ⟨e,c',arr,?_,r2,g1,?_,h1⟩
    ·simp only [Ja,Cd] at h5;obtain ⟨i,hi,rfl⟩:=h5;have w1:Ca.wrap (l':Int)=l':=Go.IntWalk.i64_in _ aA;have w2:Ca.wrap (c':Int)=c':=Go.IntWalk.i64_in _ aA;have hb:(i.bytes:Int)*(c':Int)<=2 ^ 40:=by
      have:i.bytes*c'<=1048576*1048576:=Iv g3 g2;have e:((i.bytes*c':Nat):Int)=(i.bytes:Int)*c':=by simp
      rw [<- e]; omega
     have hb':c'*i.bytes<=2 ^ 40:=by
       rw [Ox]; have:((i.bytes*c':Nat):Int)=(i.bytes:Int)*c':=by simp
       omega
     have n1:¬ ((c':Int)<0\/(i.bytes:Int)*c' > 2 ^ 48):=aA
     have n2:¬ ((l':Int)<0):=aA
     have n3:¬ ((l':Int) > (c':Int)):=aA
     have n4:¬ (c'*i.bytes > roomBytes):=by unfold roomBytes; omega
     have cz:(askRoom (c'*i.bytes)).run P C.w=.ok () C.w:=by simp [askRoom,n4]
     simp [Instr.makeSlice,Fw,Bv (Eb he),asInt,asIntOf,typeInfo,w1,w2,hi];rw [if_neg aA];simp only [cz,Fh,Gl h3];by_cases hm:c'*(sz'+1)=0
     ·have e0:∀ f:Nat->Value,(Xe 0).map f=#[]:=fun f=>by simp
      rw [if_pos hm,r3 hm,hm,e0];rfl
     ·rw [if_neg hm,r4 hm,r1];rfl
    ·have:∀ (m:Nat) (z:List AV),(Cf m z).flatten.length=m*z.length:=fun m z=>by simp
     rw [this,g4]
  ·simp at h
 ·simp at h
theorem Ahn {α:Type} : ∀ {l:List α} {i:Nat} {x:α},nth l i=some x->put l i x=l
 | _ :: _,0,_,h=>dS
 | _ :: l,i+1,_,h=>by simp only [nth] at h; simp only [put,Ahn h]
 | [],_,_,h=>bK
theorem Ajo [Globs] {C:Cx} (ar:SR C) {sz n m:Nat} {s:AV} {vs:Value} {cs:List AV} (hs:VR C s vs) (hl:lenA s=some m) (eh:n<=m) (h:srcA sz n s C.S=some cs) :
  ∃ news:List Value,(kS sz n vs).run P C.w=.ok news.toArray C.w/\VRs C cs news/\news.length=n*sz:=by
 unfold srcA at h;split at h
 ·rename_i es c;split at h
  ·rename_i hr;simp only [A8] at h; subst h;simp only [lenA,A8] at hl;simp only [VR] at hs;obtain ⟨a,len,cap,rfl,hlen,-,-,hE⟩:=hs;by_cases hn:n=0
   ·subst hn;exact Ya20
   ·rcases hE with rfl|⟨b,o,s',rfl,hp⟩
    ·simp at hl; omega
    ·have hne:es≠[]:=by rintro rfl; simp at hl; omega
     have:=Pr hp hr hne;subst this;obtain ⟨l,g1,g2,g3⟩:=Hs (Rh n hp);have rq:l.length=n*s':=by rw [g1,Iu,show min n es.length=n by omega]
     refine ⟨l,?_,Kx g2,rq⟩;exact run_firstCells_some (P:=P) C.w s' n ⟨b,o,none⟩ len cap l rq (fun j v hj=>by rw [D9]; exact (Ly g3 j v hj).1)
  ·simp at h
 ·rename_i id ep off len' sz';split at h
  ·rename_i hsz;subst hsz;split at h
   ·rename_i ce he;obtain ⟨e,h1,h2,rfl⟩:=D4 he;simp only [lenA,A8] at hl;subst hl;simp only [VR] at hs;obtain ⟨b,a,cap,rfl,hcap,ha,gn,hb⟩:=hs;obtain rfl:=(hb e h1 h2).1;obtain ⟨hlt,arr,t',h3,h4⟩:=ar.ent id e h1;obtain ⟨p,h4⟩:=entP h4;obtain ⟨h5,h6⟩:=Ll (Na off h4) (by rw [iI]; exact Aod _ h);by_cases hn:n=0
    ·subst hn;rw [Ov] at h;simp only [takeN,A8] at h; subst h;exact Ya20
    ·rcases ha with ha|rfl
     ·omega
     ·have rq:((arr.toList.drop off).take (n*sz)).length=n*sz:=by simp at h6 ⊢; omega
      refine ⟨(arr.toList.drop off).take (n*sz),?_,h5,rq⟩;refine run_firstCells_some (P:=P) C.w sz n ⟨C.φ id,off,none⟩ len' cap _ rq (fun j v hj=>?_);rw [D9];have i7:j<n*sz:=by rw [<- rq]; exact (Fx.1 hj).1
      exact Ya2b
   ·simp at h
  ·simp at h
 ·simp at h
theorem Alg [Globs] {C:Cx} (ar:SR C) {t t' ty:TypeId} {d s:AV} {vd vs:Value} {n:Nat} {S':List Ent} (hd:VR C d vd) (hs:VR C s vs) (h:cpA P t d s C.S=some (n,S')) :
  ∃ C',(Builtin.copy_ #[t,t'] ty #[vd,vs]).run P C.w=.ok (.int .i64 (n:Int)) C'.w/\Le C C'/\SR C'/\C'.S=S'/\C'.tk=C.tk/\C'.n=C.n:=by
 unfold cpA at h;split at h
 ·rename_i id ep off len sz m hm;split at h
  ·rename_i hsz;split at h
   ·rename_i news cs0 a2i a48;split at h
    ·rename_i a38;split at h
     ·rename_i cs' ho;simp only [A8,Cg] at h;obtain ⟨rfl,rfl⟩:=h;obtain ⟨e,h1,h2,rfl⟩:=D4 a48;obtain ⟨a2,cap2,rfl⟩:=X3 hs hm;obtain ⟨us,r1,r2,r3⟩:=Ajo (P:=P) ar hs hm (Nat.min_le_left _ _) a2i;simp only [VR] at hd;obtain ⟨b,a,cap,rfl,hcap,ha,gn,hb⟩:=hd;obtain rfl:=(hb e h1 h2).1;obtain ⟨hlt,arr,tt,h3,h4⟩:=ar.ent id e h1;obtain ⟨p,h4⟩:=entP h4;obtain ⟨h5,h6⟩:=La (Aql p ho);have hl2:=Bc r2;have oq:=Bc h4;simp only [I4] at oq;cases he:Be P t with
      | none=>rw [he] at hsz; simp at hsz
      | some el =>
       rw [he] at hsz;simp only [Ou] at hsz;have a39:Nat.min m len=min m len:=rfl;by_cases hn:min m len=0
       ·rw [hn] at r3;have hus:us=[]:=Fz aA;subst hus;have kz:news=[]:=Fz (by simpa using hl2);subst kz;have:cs'=e.cells:=by
         have:cs'++p=e.cells++p:=by rw [h5]; simp [puts]
         exact List.append_cancel_right this
        subst this;have a1s:put C.S id ⟨ep,e.cells⟩=C.S:=by subst h2; exact Ahn h1
        refine ⟨C,?_,Le.refl C,ar,a1s.symm,rfl,rfl⟩;rw [hn] at r1 ⊢;cases a <;> simp [Builtin.copy_,Bv (Eb he),kY,a39,hn,Gl hsz,r1,goInt,storeCells]
       ·have ha':a=some ⟨C.φ id,off,none⟩:=ha.resolve_left (by
         intro h0;rw [h0] at hn;exact hn (Nat.min_eq_right (Cl _)))
        subst ha';have fj:off+0+us.length<=arr.size:=aA
        have hrun:=run_storeCells_at P (C.φ id) off tt us 0 arr C.w h3 fj (fun v hv'=>Qf r2 a38 v hv');have a0a:=Afj (us:=us) (l:=arr.toList) (o:=off) aD;have jh:VRs C (cs'++p) (arr.toList.take off++us++arr.toList.drop (off+us.length)):=by
         rw [<- a0a,h5]; exact Nb h4 r2
        refine ⟨{ C with w:=C.w.setRow (C.φ id) (arr.toList.take off++us++arr.toList.drop (off+us.length)).toArray,S:=put C.S id ⟨ep,cs'⟩ },?_,Le.of_store ar h1 h2.symm h3 ?_,SR.of_store ar h1 h2.symm h3 ?_ (Arz (by simpa using jh)),rfl,rfl,rfl⟩
        ·simp only [I5] at hrun;simp [Builtin.copy_,Bv (Eb he),kY,a39,Gl hsz,r1,goInt,hrun]
        ·exact Ya15
        ·exact Ya15
     ·simp at h
    ·simp at h
   ·simp at h
  ·simp at h
 ·simp at h
end
end
end Go.Proofs.YtcjffhadclngmaaGreat
