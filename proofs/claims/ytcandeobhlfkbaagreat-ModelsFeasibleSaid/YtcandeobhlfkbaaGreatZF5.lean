/- Part 5. -/
import Derived.Test.YtcandeobhlfkbaaGreatZF4
import Derived.Laws.AppendOwn
import Derived.Laws.OwnMore
import Derived.Laws.CopyRow
import Derived.IntWalk
open Array renaming getElem?_eq_some_iff->Cj,length_toList->Ih,range->S7,ext'->gS
open Bool renaming and_eq_true->Ch,false_eq_true->C8,or_eq_true->F8
open Go renaming sizeOf->jC
open Go.Addr renaming add->iB
open Go.Builtin renaming append_->Oa,zeroCells->Oe,firstCells->iS,lenOf->jA
open Go.Instr renaming sureAddr->O5,loadAt->gH
open Go.IntKind renaming i64->Cf
open Go.IntWalk renaming i64_in->Og
open Go.Obj renaming cells->gP
open Go.Obj.cells renaming injEq->iF
open Go.Result renaming andThen_ok->Ev
open Go.RowKit.Below renaming refl->C5,cell->iR
open Go.Sem renaming run_bind->Fj
open Go.World renaming cell?->Fz
open List renaming replicate->Ci,length_cons->Ck,mem_cons->Cn,cons_append->Cr,length_append->Cs,getElem?_append_left->Ct,length_nil->Cu,all_eq_true->Cv,nil_append->Cw,mem_append->C4,getElem?_append_right->C6,append_assoc->Fa,eq_nil_of_length_eq_zero->Fm,getElem?_eq_some_iff->Fu,flatten_cons->Fx,append_nil->F4,getElem?_eq_getElem->Il,getElem?_take_of_lt->Io,getElem?_take->Iu,length_take->Ix,getElem?_toArray->O6,getElem?_drop->Sq,drop_append->fP,all_cons->fU,set_append_right->gK,map_replicate->iT
open Nat renaming le_refl->Cc,zero_le->Co,lt_of_lt_of_le->Ff,zero_add->Fg,lt_or_ge->F3,mul_le_mul_right->Ic,lt_succ_self->Iy,add_zero->M9,succ_mul->Od,mul_le_mul->Ov,zero_mul->O0,mul_comm->O1,add_mul->Sg,le_succ->iC
open Option renaming map_eq_some_iff->Ca,map_some->C3,bind_some->I7
open Option.some renaming injEq->A2
open Prod.mk renaming injEq->Cg
namespace Go.Proofs.YtcandeobhlfkbaaGreat
section
open Go.RowKit
section
variable {P:Program}
theorem Nq {C:Cx} {t:TypeId} {sz:Nat} {bb:Bool} {b o:Nat} {cs:List AV} {vs:List Value} {av:AV} (hs:szOf P t=some sz) (ha:aggT P t=some bb) (hx:VRs C cs vs) (hl:∀ (j:Nat) (v:Value),vs[j]?=some v->C.w.cell? ⟨b,o+j,none⟩=some v)
  (h:partA bb sz cs=some av):Has P C (loadVar t ⟨b,o,none⟩) av:=by
 unfold partA at h;cases bb with
 | true =>
  simp only [if_true,Ca] at h;obtain ⟨ds,h1,rfl⟩:=h;obtain ⟨h2,h3⟩:=Jz hx h1;have m6:(vs.take sz).length=sz:=cM
  have:=run_loadCells_list (P:=P) C.w ⟨b,o,none⟩ (vs.take sz) (fun j v hj=>by
   rw [Du];refine hl j v ?_;rw [Iu] at hj;split at hj
   ·exact hj
   ·simp at hj)
  rw [m6] at this;refine ⟨.agg (vs.take sz).toArray,by simp [loadVar,Mz ha,Er hs,this],?_⟩;simp only [VR];exact ⟨_,rfl,h2⟩
 | false =>
  simp only [C8,if_false] at h;obtain ⟨v,h1,h2⟩:=U5 hx h;refine ⟨v,?_,h2⟩;have:=hl 0 v h1;simp only [M9] at this;simp [loadVar,Mz ha,this]
theorem Ac6 {C:Cx} : ∀ {a b:List AV} {l:List Value},VRs C (a++b) l->∃ l1 l2,l=l1++l2/\VRs C a l1/\VRs C b l2
 | [],b,l,h=>⟨[],l,rfl,bT,h⟩
 | x :: a,b,v :: l,h=>by
  simp only [Cr,VRs] at h;obtain ⟨l1,l2,rfl,h1,h2⟩:=Ac6 (a:=a) h.2;exact ⟨v :: l1,l2,rfl,by simp only [VRs]; exact ⟨h.1,h1⟩,h2⟩
 | _ :: _,_,[],h=>by simp only [Cr,VRs] at h
theorem entP {C:Cx} {cells:List AV} {l:List Value} (h:∃ vs r,l=vs++r/\VRs C cells vs):∃ p,VRs C (cells++p) l:=by
 obtain ⟨vs,r,rfl,h⟩:=h;exact ⟨_,Gz h (Wd r)⟩
theorem Aov {C:Cx} {cells p:List AV} {l:List Value} (h:VRs C (cells++p) l):∃ vs r,l=vs++r/\VRs C cells vs:=by
 obtain ⟨l1,l2,e,h1,-⟩:=Ac6 h;exact ⟨l1,l2,e,h1⟩
theorem Ank (p:List AV):∀ {cs:List AV} {o:Nat} {vs cs':List AV},over cs o vs=some cs'->over (cs++p) o vs=some (cs'++p)
 | cs,0,[],cs',h=>by
  have:cs=cs':=by cases cs <;> simpa [over] using h
  subst this;cases (cs++p) <;> rfl
 | c :: cs,k+1,vs,cs',h=>by
  exact Ya12
 | _ :: cs,0,v :: vs,cs',h=>by
  exact Ya12
 | [],0,_ :: _,_,h=>eU
 | [],_+1,_,_,h=>eU
theorem Alc (p:List AV):∀ {n:Nat} {cs x:List AV},takeN n cs=some x->takeN n (cs++p)=some x
 | 0,_,_,h=>by simpa [takeN] using h
 | n+1,[],_,h=>by simp [takeN] at h
 | n+1,c :: cs,x,h=>by
  simp only [takeN,Ca] at h;obtain ⟨y,h,rfl⟩:=h;simp only [Cr,takeN,Alc p h,C3]
theorem Ast (p:List AV) {b:Bool} {n:Nat} {cs:List AV} {x:AV} (h:partA b n cs=some x):partA b n (cs++p)=some x:=by
 unfold partA at h ⊢;cases b with
 | true =>
  simp only [if_true,Ca] at h ⊢;obtain ⟨y,h,rfl⟩:=h;exact ⟨y,Alc p h,rfl⟩
 | false =>
  simp only [C8,if_false] at h ⊢;cases cs with
  | nil=>simp [nth] at h
  | cons c cs=>exact h
theorem Dz {S:List Ent} {id ep:Nat} {cs:List AV} (h:entAt S id ep=some cs):∃ e,nth S id=some e/\e.ep=ep/\e.cells=cs:=by
 unfold entAt at h;split at h
 ·rename_i e he;split at h
  ·rename_i md; simp only [A2] at h; exact ⟨e,he,md,h⟩
  ·simp at h
 ·simp at h
theorem Z4 [Globs] {C:Cx} (hsr:SR C) {t:TypeId} {a av:AV} {va:Value} (hx:VR C a va) (h:ldA P t a C.S=some av):Has P C (gH t va) av:=by
 unfold ldA at h;split at h
 ·rename_i sz bb hs ha;split at h
  ·rename_i cs;simp only [VR] at hx;obtain ⟨b,o,vs,rfl,hl,hp⟩:=hx;obtain ⟨v,h1,h2⟩:=Nq (b:=b) (o:=o) hs ha (Jk hp) (fun j v hj=>(Kf hl j v hj).1) h;exact ⟨v,by simpa [gH,O5] using h1,h2⟩
  ·rename_i id ep off;split at h
   ·rename_i cs he;obtain ⟨e,h1,h2,rfl⟩:=Dz he;simp only [VR] at hx;obtain ⟨b,rfl,hn,hb⟩:=hx;obtain rfl:=hb e h1 h2;obtain ⟨-,arr,t',h3,h4⟩:=hsr.ent id e h1;obtain ⟨p,h4⟩:=entP h4;obtain ⟨v,g1,g2⟩:=Nq (b:=C.φ id) (o:=off) hs ha (Ls off h4) (fun j v hj=>by
     rw [Sq] at hj;simp [Fz,h3]; simpa using hj) (by rw [fP]; exact Ast _ h)
    exact ⟨v,by simpa [gH,O5] using g1,g2⟩
   ·simp at h
  ·simp at h
 ·simp at h
theorem D8 {α:Type} : ∀ {l:List α} {i:Nat} {v x:α},nth (put l i v) i=some x->x=v
 | _ :: _,0,_,_,h=>by simpa [put,nth] using h.symm
 | _ :: l,i+1,v,x,h=>D8 (l:=l) (i:=i) (by simpa [put,nth] using h)
 | [],_,_,_,h=>by simp [put,nth] at h
theorem Ad {α:Type} : ∀ {l:List α} {i j:Nat} {v:α},i≠j->nth (put l i v) j=nth l j
 | _ :: _,0,0,_,h=>absurd rfl h
 | _ :: _,0,j+1,_,_=>rfl
 | _ :: _,i+1,0,_,_=>rfl
 | _ :: l,i+1,j+1,v,h=>Ad (l:=l) (i:=i) (j:=j) aA
 | [],_,_,_,_=>rfl
theorem Af {α:Type} {l:List α} {i:Nat} (h:i<l.length):∃ x,nth l i=some x:=⟨l[i],by rw [Ae]; exact Il h⟩
theorem Ack:∀ {us l:List Value} {o:Nat},o+us.length<=l.length->sets l o us=l.take o++us++l.drop (o+us.length)
 | [],l,o,_=>by simp [sets]
 | u :: us,l,o,h=>by
  simp only [sets];simp only [Ck] at h;rw [Ack aB];have h1:(l.set o u).take (o+1)=l.take o++[u]:=by
   rw [List.take_set,List.take_add_one];have:l[o]?=some (l[o]' aA):=Il _;rw [this];simp only [Option.toList_some];rw [gK _ _ aB];simp [show min o l.length=o from by omega]
  have h2:(l.set o u).drop (o+1+us.length)=l.drop (o+(us.length+1)):=by
   rw [List.drop_set_of_lt aA];congr 1;omega
  rw [h1,h2];simp
theorem Nm {C:Cx} : ∀ {cs:List AV} {vs:List Value},VRs C cs vs->cs.all leafOk=true->∀ v ∈ vs,v.oneCell'=true
 | [],[],_,_=>by simp
 | c :: cs,v :: vs,h,hl=>by
  simp only [VRs] at h;simp only [fU,Ch] at hl;intro u hu;rcases Cn.1 hu with rfl|hu
  ·cases c with
   | prim x=>have:=h.1; simp only [VR] at this; subst this; exact hl.1
   | bot=>simp [leafOk] at hl
   | agg _=>simp [leafOk] at hl
   | tup _=>simp [leafOk] at hl
   | frz _ _=>have:=h.1; simp only [VR] at this; obtain ⟨_,_,_,rfl,-⟩:=this; rfl
   | fptr _=>have:=h.1; simp only [VR] at this; obtain ⟨_,_,_,rfl,-⟩:=this; rfl
   | ref _ _ _=>have:=h.1; simp only [VR] at this; obtain ⟨_,rfl,-⟩:=this; rfl
   | sref _ _ _ _ _=>have:=h.1; simp only [VR] at this; obtain ⟨_,_,_,rfl,-⟩:=this; rfl
   | fn _ _=>have:=h.1; simp only [VR] at this; obtain ⟨_,rfl,-⟩:=this; rfl
   | bfn _ _=>have:=h.1; simp only [VR] at this; obtain ⟨_,rfl,-⟩:=this; rfl
   | ifc _ _=>have:=h.1; simp only [VR] at this; obtain ⟨_,rfl,-⟩:=this; rfl
   | mfn _ _ _=>have:=h.1; simp only [VR] at this; obtain ⟨_,rfl,-⟩:=this; rfl
   | lit _ _=>have:=h.1; simp only [VR] at this; obtain ⟨_,_,rfl,-⟩:=this; rfl
  ·exact Nm h.2 hl.2 u hu
 | [],_ :: _,h,_=>aP
 | _ :: _,[],h,_=>aP
theorem Le.of_store [Globs] {C:Cx} (hsr:SR C) {id:Nat} {e e':Ent} {cs cs':Array Value} {t:TypeId} (he:nth C.S id=some e) (md:e'.ep=e.ep) (hb:C.w.heap[C.φ id]?=some (.cells cs t (0,0))) (hsz:cs'.size=cs.size) :
  Le C { C with w:=C.w.setRow (C.φ id) cs',S:=put C.S id e' }:=by
 have hm:∀ o,C.Mut (C.φ id) o:=fun o=>.inl ⟨id,Bh he,rfl⟩;refine ⟨rfl,rfl,rfl,by simp,rfl,Cc _,?_,?_,?_,?_,?_,fun _ k hk=>⟨k,hk,Cc _,fun _=>rfl⟩⟩
 ·rintro b o - (⟨i,hi,h⟩|h)
  ·exact .inl ⟨i,eI,h⟩
  ·exact .inr h
 ·intro b o v hv hn;have hne:b≠C.φ id:=fun h=>hn (h ▸ hm o);have:=setRow_other C.w (C.φ id) b cs' hne;simpa [Fz,this] using hv
 ·intro b _ hn;exact setRow_other C.w (C.φ id) b cs' fun h=>hn 0 (h ▸ hm 0)
 ·intro b d t' fz hd;by_cases h:b=C.φ id
  ·subst h;rw [hb] at hd;simp only [A2,iF] at hd;obtain ⟨rfl,rfl,rfl⟩:=hd;exact ⟨cs',setRow_heap _ _ _ _ _ _ hb,hsz⟩
  ·exact ⟨d,Za3u,rfl⟩
 ·intro i x hx _;by_cases h:id=i
  ·subst h;have:=D8 hx;subst this;exact ⟨e,he,md.symm,rfl⟩
  ·rw [Ad h] at hx;exact ⟨x,hx,rfl,rfl⟩
theorem SR.of_store [Globs] {C:Cx} (hsr:SR C) {id:Nat} {e e':Ent} {cs cs':Array Value} {t:TypeId} (he:nth C.S id=some e) (md:e'.ep=e.ep) (hb:C.w.heap[C.φ id]?=some (.cells cs t (0,0))) (hsz:cs'.size=cs.size) (hv:∃ vs r,cs'.toList=vs++r/\VRs C e'.cells vs) :
  SR { C with w:=C.w.setRow (C.φ id) cs',S:=put C.S id e' }:=by
 have hle:=Le.of_store hsr he md hb hsz;refine ⟨fun i x hx=>?_,fun i j hi hj h=>hsr.ne i j eI (by simpa [Ao] using hj) h,hsr.tok,fun i j o hi hj=>hsr.apart i j o eI hj,?_,fun b o ha=>by have:=hsr.avlt b o ha; simpa using this,fun i o hi h1 h2=>by have:=hsr.tlt i o hi h1 h2; simpa using this,Pg hsr hle⟩
 ·by_cases h:id=i
  ·subst h;have:=D8 hx;subst this;obtain ⟨vs,r,hv1,hv2⟩:=hv;exact ⟨by rw [md]; exact (hsr.ent id e he).1,cs',t,setRow_heap _ _ _ _ _ _ hb,vs,r,hv1,VRs.mono hle _ _ hv2⟩
  ·have hx':nth C.S i=some x:=by rw [<- Ad h]; exact hx
   obtain ⟨h1,arr,t',h2,vs',r',hvr,h3⟩:=hsr.ent i x hx';refine ⟨h1,arr,t',?_,vs',r',hvr,VRs.mono hle _ _ h3⟩;have hne:C.φ i≠C.φ id:=fun hh=>h (hsr.ne i id (Bh hx') (Bh he) hh).symm;simpa [setRow_other _ _ _ _ hne] using h2
 ·rintro b o (⟨i,hi,h⟩|h)
  ·exact hsr.own b o (.inl ⟨i,eI,h⟩)
  ·exact hsr.own b o (.inr h)
theorem Ak5 [Globs] {C:Cx} (hsr:SR C) {t:TypeId} {a x:AV} {va vx:Value} {S':List Ent} (ha:VR C a va) (hx:VR C x vx) (h:stA P t a x C.S=some S') :
  ∃ C',(Instr.storeAt t va vx).run P C.w=.ok () C'.w/\Le C C'/\SR C'/\C'.S=S'/\C'.tk=C.tk/\C'.n=C.n:=by
 unfold stA at h;split at h
 ·rename_i id ep off sz vs hs hc;split at h
  ·rename_i hh;split at h
   ·rename_i cs he;split at h
    ·rename_i cs' ho;simp only [A2] at h; subst h;obtain ⟨e,h1,h2,rfl⟩:=Dz he;simp only [VR] at ha;obtain ⟨b,rfl,hn,hb⟩:=ha;obtain rfl:=hb e h1 h2;obtain ⟨hlt,arr,t',h3,h4⟩:=hsr.ent id e h1;obtain ⟨p,h4⟩:=entP h4;obtain ⟨h5,h6⟩:=Jp (Ank p ho);have hv:=Gr hc hx;have hl1:=A3 hv;have pu:=A3 h4;simp only [Ih] at hl1 pu;have ag:off+0+vx.cells.toList.length<=arr.size:=aB
     have hrun:=run_storeCells_at P (C.φ id) off t' vx.cells.toList 0 arr C.w h3 ag (fun v hv'=>Nm hv hh.2 v hv');have ub:=Ack (us:=vx.cells.toList) (l:=arr.toList) (o:=off) aB;have ik:VRs C (cs'++p) (arr.toList.take off++vx.cells.toList++arr.toList.drop (off+vx.cells.toList.length)):=by
      rw [<- ub,h5]; exact Lt h4 hv
     refine ⟨{ C with w:=C.w.setRow (C.φ id) (arr.toList.take off++vx.cells.toList++arr.toList.drop (off+vx.cells.toList.length)).toArray,S:=put C.S id ⟨ep,cs'⟩ },?_,Le.of_store hsr h1 h2.symm h3 ?_,SR.of_store hsr h1 h2.symm h3 ?_ (Aov (by simpa using ik)),rfl,rfl,rfl⟩
     ·have e1:vx.cells.size=sz:=aA
      simp only [M9] at hrun;simp [Instr.storeAt,O5,storeVar,Er hs,e1,hrun]
     ·exact Ya0w
     ·exact Ya0w
    ·simp at h
   ·simp at h
  ·simp at h
 ·simp at h
def Cx.more (C:Cx) (arr:Array Value) (t:TypeId) (cs:List AV):Cx :=
 { C with w:=C.w.alloc (.cells arr t),φ:=fun i=>if i=C.S.length then C.w.heap.size else C.φ i,S:=C.S++[⟨C.n,cs⟩],n:=C.n+1 }
theorem J9 {α:Type} : ∀ {l:List α} {v x:α} {i:Nat},nth (l++[v]) i=some x->(i=l.length/\x=v)\/(i<l.length/\nth l i=some x)
 | [],v,x,0,h=>.inl ⟨rfl,by simpa [nth] using h.symm⟩
 | [],v,x,i+1,h=>bQ
 | y :: l,v,x,0,h=>.inr ⟨by simp,h⟩
 | y :: l,v,x,i+1,h=>by
  rcases J9 (l:=l) (i:=i) h with ⟨h1,h2⟩|⟨h1,h2⟩
  ·exact .inl ⟨dR,h2⟩
  ·exact .inr ⟨aR,h2⟩
theorem Ny [Globs] {C:Cx} (hsr:SR C) {i:Nat} (h:i<C.S.length):C.φ i<C.w.heap.size:=by
 obtain ⟨e,he⟩:=Af h;obtain ⟨-,cs,t,h2,-⟩:=hsr.ent i e he;exact (Cj.1 h2).1
theorem Le.more [Globs] {C:Cx} (hsr:SR C) (arr:Array Value) (t:TypeId) (cs:List AV):Le C (C.more arr t cs):=by
 have hb:Below C.w.heap.size C.w (C.w.alloc (.cells arr t)):=(C5 _ _).alloc (Cc _) _;refine ⟨rfl,rfl,rfl,hb.size,rfl,iC _,?_,fun b o v hv _=>by rw [show (C.more arr t cs).w=C.w.alloc (.cells arr t) from rfl,iR hb (Ea hv)]; exact hv,fun b hlt _=>hb.block b hlt,fun b d t' fz hd=>⟨d,Di hb hd,rfl⟩,?_,fun _ k hk=>⟨k,hk,Cc _,fun _=>rfl⟩⟩
 ·rintro b o hlt (⟨i,hi,h⟩|h)
  ·simp only [Cx.more] at hi h;split at h
   ·omega
   ·exact .inl ⟨i,cB,h⟩
  ·exact .inr h
 ·intro i x hx hn;rcases J9 hx with ⟨h1,h2⟩|⟨h1,h2⟩
  ·subst h2; simp at hn
  ·refine ⟨x,h2,rfl,?_⟩;simp only [Cx.more];rw [if_neg aA]
theorem SR.moreP [Globs] {C:Cx} (hsr:SR C) {arr:Array Value} {t:TypeId} {cs:List AV} (hv:∃ vs r,arr.toList=vs++r/\VRs C cs vs):SR (C.more arr t cs):=by
 have hle:=Le.more hsr arr t cs;have hb:Below C.w.heap.size C.w (C.w.alloc (.cells arr t)):=(C5 _ _).alloc (Cc _) _;refine ⟨fun i x hx=>?_,fun i j hi hj h=>?_,hsr.tok,fun i j o hi hj h h1 h2=>?_,?_,fun b o ha=>Ff (hsr.avlt b o ha) hb.size,fun i o hi h1 h2=>Ff (hsr.tlt i o hi h1 h2) hb.size,Pg hsr hle⟩
 ·rcases J9 hx with ⟨h1,rfl⟩|⟨h1,h2⟩
  ·obtain ⟨vs,r,hv1,hv2⟩:=hv;refine ⟨Iy _,arr,t,?_,vs,r,hv1,VRs.mono hle _ _ hv2⟩;simp only [Cx.more,h1,if_true];exact An _ _
  ·obtain ⟨g1,d,t',g2,vs',r',hvr,g3⟩:=hsr.ent i x h2;refine ⟨Nat.lt_succ_of_lt g1,d,t',?_,vs',r',hvr,VRs.mono hle _ _ g3⟩;simp only [Cx.more];rw [if_neg aA];exact Di hb g2
 ·simp only [Cx.more,Cs,Ck,Cu] at hi hj h;by_cases aq:i=C.S.length <;> by_cases dv:j=C.S.length
  ·omega
  ·rw [if_pos aq,if_neg dv] at h;have:=Ny hsr (i:=j) aA; omega
  ·rw [if_neg aq,if_pos dv] at h;have:=Ny hsr (i:=i) aA; omega
  ·rw [if_neg aq,if_neg dv] at h;exact hsr.ne i j aA aA h
 ·simp only [Cx.more,Cs,Ck,Cu] at hi h hj h1 h2;by_cases aq:i=C.S.length
  ·rw [if_pos aq] at h;have:=hsr.tlt j o hj h1 h2; omega
  ·rw [if_neg aq] at h;exact hsr.apart i j o aA hj h h1 h2
 ·rintro b o (⟨i,hi,h⟩|h)
  ·simp only [Cx.more,Cs,Ck,Cu] at hi h;by_cases aq:i=C.S.length
   ·rw [if_pos aq] at h;intro ha;have:=hsr.avlt b o ha; omega
   ·rw [if_neg aq] at h;exact hsr.own b o (.inl ⟨i,aA,h⟩)
  ·exact hsr.own b o (.inr h)
theorem SR.more [Globs] {C:Cx} (hsr:SR C) {arr:Array Value} {t:TypeId} {cs:List AV} (hv:VRs C cs arr.toList):SR (C.more arr t cs):=SR.moreP hsr ⟨_,[],by simp,hv⟩
theorem Aoj {C:Cx} {arr:Array Value} {t:TypeId} {cs:List AV} : VR (C.more arr t cs) (.ref C.S.length C.n 0) (.pointer (some ⟨C.w.heap.size,0,none⟩)):=by
 simp only [VR];refine ⟨_,rfl,Iy _,fun e he md=>?_⟩;simp [Cx.more]
theorem T8 (w:World) (t e:TypeId) (i:TypeInfo) (ty:TypeId) (ht:P.underlying t=some (.slice e)) (hi:P.info? e=some i) (base a:Option Addr) (n cap c:Nat) (h:n<=cap) :
  (Oa #[t,t] ty #[.slice base n cap,.slice a 0 c]).run P w=.ok (.slice base n cap) w:=by
 cases base <;> cases a <;> simp [Oa,Bk ht,jC,typeInfo,hi,jA,iS,loadCells,loadCellsFrom,h,storeCells]
theorem Ki (w:World) (t ty e:TypeId) (i:TypeInfo) (ht:P.underlying t=some (.slice e)) (hi:P.info? e=some i)
  (g sLen sCap:Nat) (t':TypeId) (cur:Array Value) (hg:w.heap[g]?=some (.cells cur t' (0,0)))
  (a:Addr) (m c:Nat) (news:List Value) (hl:news.length=m*i.size) (gj:∀ (j:Nat) u,news[j]?=some u->w.cell? (a.add j)=some u) (h1:∀ u ∈ news,u.oneCell'=true)
  (bh:sLen+m<=sCap) (ag:sLen*i.size+news.length<=cur.size) :
  (Oa #[t,t] ty #[.slice (some ⟨g,0,none⟩) sLen sCap,.slice (some a) m c]).run P w =
   .ok (.slice (some ⟨g,0,none⟩) (sLen+m) sCap) (w.setRow g (cur.toList.take (sLen*i.size)++news++cur.toList.drop (sLen*i.size+news.length)).toArray):=by
 have hf:=run_firstCells_some (P:=P) w i.size m a m c news hl gj;have ah:=run_storeCells_at P g (sLen*i.size) t' news 0 cur w hg (by simpa using ag) h1;simp only [M9] at ah;simp [Oa,Bk ht,jC,typeInfo,hi,jA,bh,hf,Du,ah]
theorem Ari {w:World} {A:Nat->Nat->Prop} {c:AV} {v:Value} (h:PR w A c v):v.oneCell'=true:=by
 unfold PR at h;split at h
 ·rw [h.1]; exact h.2
 ·obtain ⟨_,_,_,rfl,-⟩:=h; rfl
 ·obtain ⟨_,_,_,rfl,-⟩:=h; rfl
 ·rw [h]; rfl
 ·exact h.elim
theorem V6 {w:World} {A:Nat->Nat->Prop} : ∀ {cs:List AV} {vs:List Value},PRs w A cs vs->∀ v ∈ vs,v.oneCell'=true
 | [],[],_=>by simp
 | c :: cs,v :: vs,h=>by
  simp only [PRs] at h;intro u hu;rcases Cn.1 hu with rfl|hu
  ·exact Ari h.1
  ·exact V6 h.2 u hu
 | [],_ :: _,h=>bL
 | _ :: _,[],h=>bL
def Cx.tok (C:Cx) (w:World) (c:Cap) (x:Nat × Nat × Nat):Cx :=
 match c with
 | .tok id ep _=>{ C with w:=w,tk:=put C.tk id (ep+1),ψ:=fun i=>if i=id then x else C.ψ i }
 | _=>{ C with w:=w,tk:=C.tk++[0],ψ:=fun i=>if i=C.tk.length then x else C.ψ i }
def Hy (C:Cx) (c:Cap):Nat:=match c with|.tok id _ _=>id|_=>C.tk.length
theorem Mj {C:Cx} {w:World} {c:Cap} {x:Nat × Nat × Nat} {sz:Nat} (h:Bd C.tk c sz=true):(C.tok w c x).w=w/\(C.tok w c x).av=C.av/\(C.tok w c x).φ=C.φ/\(C.tok w c x).S=C.S/\(C.tok w c x).n=C.n/\(C.tok w c x).tk=G6 C.tk c /\
  (C.tok w c x).ψ=(fun i=>if i=Hy C c then x else C.ψ i)/\C.tk.length<=(C.tok w c x).tk.length/\Hy C c<(C.tok w c x).tk.length/\(∀ i,i<(C.tok w c x).tk.length->i=Hy C c\/i<C.tk.length) /\
  (∀ i k,nth C.tk i=some k->∃ k',nth (C.tok w c x).tk i=some k'/\k<=k'/\(k'=k->i≠Hy C c)):=by
 cases c with
 | unk=>simp [Bd] at h
 | tight =>
  exact Yat
 | nilc =>
  exact Yat
 | nl=>simp [Bd] at h
 | nn=>simp [Bd] at h
 | tok id ep s =>
  simp only [Bd,Ch,beq_iff_eq] at h;refine ⟨rfl,rfl,rfl,rfl,rfl,rfl,rfl,by simp [Cx.tok,Ao],by simpa [Cx.tok,Hy,Ao] using Bh h.2,fun i hi=>by simp [Cx.tok,Ao] at hi; exact .inr hi,fun i k hk=>?_⟩;by_cases hi:id=i
  ·subst hi;rw [h.2] at hk; simp only [A2] at hk; subst hk;refine ⟨ep+1,?_,aA,fun h=>aA⟩;exact Ya16
  ·refine ⟨k,?_,Cc _,fun _=>by simp [Hy]; omega⟩;simp only [Cx.tok];rw [Ad hi]; exact hk
theorem J2 {C:Cx} {w:World} {c:Cap} {b lo hi sz len cap:Nat} {a:Option Addr} (h:Bd C.tk c sz=true)
  (hc:cap=len\/∃ cs t,a=some ⟨b,0,none⟩/\(b,lo,hi)=(b,len*sz,cap*sz)/\w.heap[b]?=some (.cells cs t (0,0))/\cap*sz<=cs.size):CapR (C.tok w c (b,lo,hi)) (Bg C.tk c sz) a len cap:=by
 cases c with
 | unk=>simp [Bd] at h
 | tight =>
  exact Ya3o
 | nilc =>
  exact Ya3o
 | nl=>simp [Bd] at h
 | nn=>simp [Bd] at h
 | tok id ep s =>
  simp only [Bd,Ch,beq_iff_eq] at h;refine ⟨ep+1,?_,Cc _,fun _=>?_⟩
  ·exact Ya16
  ·exact Ya0b
def Ma (C:Cx) (c:Cap) (b lo hi:Nat):Prop:=hi<=lo\/C.w.heap.size<=b\/(∃ id ep s,c=.tok id ep s/\(C.ψ id).1=b/\(C.ψ id).2.1<=lo/\hi<=(C.ψ id).2.2)
theorem Q5 {C:Cx} {w:World} {c:Cap} {b lo hi sz:Nat} (h:Bd C.tk c sz=true) (hn:Ma C c b lo hi) {x o:Nat} (hm:(C.tok w c (b,lo,hi)).Mut x o):C.Mut x o\/(x=b/\lo<=o/\o<hi/\C.w.heap.size<=b):=by
 obtain ⟨e1,e2,e3,e4,e5,e6,e7,e8,e9,e10,e11⟩:=Mj (w:=w) (x:=(b,lo,hi)) h;rcases hm with ⟨i,aq,hx⟩|⟨i,aq,h1,h2,h3⟩
 ·exact .inl (.inl ⟨i,by rwa [e4] at aq,by rwa [e3] at hx⟩)
 ·rw [e7] at h1 h2 h3;dsimp only at h1 h2 h3;by_cases hid:i=Hy C c
  ·rw [if_pos hid] at h1 h2 h3;simp only at h1 h2 h3;rcases hn with hn|hn|⟨id,ep,s,rfl,g1,g2,g3⟩
   ·omega
   ·exact .inr ⟨h1.symm,h2,h3,hn⟩
   ·refine .inl (.inr ⟨id,?_,by rw [g1,h1],aA,aA⟩);simp only [Bd,Ch,beq_iff_eq] at h;exact Bh h.2
  ·rw [if_neg hid] at h1 h2 h3;refine .inl (.inr ⟨i,?_,h1,h2,h3⟩);rcases e10 i aq with hh|hh
   ·exact absurd hh hid
   ·exact hh
theorem Le.of_tok {C:Cx} {w:World} {c:Cap} {b lo hi sz:Nat} (h:Bd C.tk c sz=true) (hn:Ma C c b lo hi) (hos:w.os=C.w.os) (uc:w.tape=C.w.tape) (me:w.output=C.w.output) (ud:C.w.heap.size<=w.heap.size)
  (hcell:∀ x o v,C.w.cell? ⟨x,o,none⟩=some v->¬ C.Mut x o->w.cell? ⟨x,o,none⟩=some v) (ue:∀ x,x<C.w.heap.size->(∀ o,¬ C.Mut x o)->w.heap[x]?=C.w.heap[x]?)
  (pw:∀ (b:Nat) (cs:Array Value) (t:TypeId) (fz:Nat × Nat),C.w.heap[b]?=some (gP cs t fz)->∃ cs':Array Value,w.heap[b]?=some (gP cs' t fz)/\cs'.size=cs.size):Le C (C.tok w c (b,lo,hi)):=by
 obtain ⟨e1,e2,e3,e4,e5,e6,e7,e8,e9,e10,e11⟩:=Mj (w:=w) (x:=(b,lo,hi)) h;refine ⟨by rw [e1,hos],by rw [e1,uc],by rw [e1,me],by rw [e1]; exact ud,e2,by rw [e5]; exact Cc _,fun x o hlt hm=>?_,by rw [e1]; exact hcell,by rw [e1]; exact ue,by rw [e1]; exact pw,fun i x hx _=>⟨x,by rwa [e4] at hx,rfl,by rw [e3]⟩,fun i k hk=>?_⟩
 ·rcases Q5 h hn hm with h'|⟨rfl,-,-,h'⟩
  ·exact h'
  ·omega
 ·obtain ⟨k',g1,g2,g3⟩:=e11 i k hk;exact ⟨k',g1,g2,fun e=>by rw [e7]; simp only; rw [if_neg (g3 e)]⟩
theorem SR.of_tok [Globs] {C:Cx} (hsr:SR C) {w:World} {c:Cap} {b lo hi sz:Nat} (h:Bd C.tk c sz=true) (hn:Ma C c b lo hi) (hlt:lo<hi->b<w.heap.size) (hle:Le C (C.tok w c (b,lo,hi)))
  (uf:∀ i,i<C.S.length->w.heap[C.φ i]?=C.w.heap[C.φ i]?):SR (C.tok w c (b,lo,hi)):=by
 obtain ⟨e1,e2,e3,e4,e5,e6,e7,e8,e9,e10,e11⟩:=Mj (w:=w) (x:=(b,lo,hi)) h;have old:∀ i,i<(C.tok w c (b,lo,hi)).tk.length->i≠Hy C c->i<C.tk.length:=fun i aq hne=>(e10 i aq).resolve_left hne;have key:∀ o,lo<=o->o<hi->(∀ j,j<C.tk.length->j≠Hy C c->(C.ψ j).1=b->(C.ψ j).2.1<=o->o<(C.ψ j).2.2->False)/\(∀ i,i<C.S.length->C.φ i=b->False)/\¬ C.av b o:=by
  intro o h1 h2;rcases hn with hn|hn|⟨id,ep,s,rfl,g1,g2,g3⟩
  ·omega
  ·refine ⟨fun j hj _ hb k1 k2=>?_,fun i aq hb=>?_,fun ha=>?_⟩
   ·have:=hsr.tlt j o hj k1 k2; omega
   ·have:=Ny hsr aq; omega
   ·have:=hsr.avlt b o ha; omega
  ·simp only [Bd,Ch,beq_iff_eq] at h;have hid:=Bh h.2;refine ⟨fun j hj hne hb k1 k2=>hne (hsr.tok j id o hj hid (by rw [hb,g1]) k1 k2 aA aA),fun i aq hb=>hsr.apart i id o aq hid (by rw [hb,g1]) aA aA,hsr.own b o (.inr ⟨id,hid,g1,aA,aA⟩)⟩
 refine ⟨fun i x hx=>?_,fun i j aq hj hh=>?_,fun i j o aq hj hh h1 h2 h3 h4=>?_,fun i j o aq hj hh h1 h2=>?_,fun x o hm=>?_,fun x o ha=>?_,fun i o aq h1 h2=>?_,Pg hsr hle⟩
 ·rw [e4] at hx;obtain ⟨g1,arr,t,g2,vs',r',hvr,g3⟩:=hsr.ent i x hx;refine ⟨by rw [e5]; exact g1,arr,t,by rw [e1,e3,uf i (Bh hx)]; exact g2,vs',r',hvr,VRs.mono hle _ _ g3⟩
 ·rw [e4] at aq hj; rw [e3] at hh;exact hsr.ne i j aq hj hh
 ·rw [e7] at hh h1 h2 h3 h4;simp only at hh h1 h2 h3 h4;by_cases tw:i=Hy C c <;> by_cases ug:j=Hy C c
  ·rw [tw,ug]
  ·rw [if_pos tw] at hh h1 h2; rw [if_neg ug] at hh h3 h4;simp only at hh h1 h2;exact ((key o h1 h2).1 j (old j hj ug) ug hh.symm h3 h4).elim
  ·rw [if_neg tw] at hh h1 h2; rw [if_pos ug] at hh h3 h4;simp only at hh h3 h4;exact ((key o h3 h4).1 i (old i aq tw) tw hh h1 h2).elim
  ·rw [if_neg tw] at hh h1 h2; rw [if_neg ug] at hh h3 h4;exact hsr.tok i j o (old i aq tw) (old j hj ug) hh h1 h2 h3 h4
 ·rw [e4] at aq; rw [e3,e7] at hh; rw [e7] at h1 h2;simp only at hh h1 h2;by_cases ug:j=Hy C c
  ·rw [if_pos ug] at hh h1 h2;simp only at hh h1 h2;exact (key o h1 h2).2.1 i aq hh
  ·rw [if_neg ug] at hh h1 h2;exact hsr.apart i j o aq (old j hj ug) hh h1 h2
 ·rw [e2];rcases Q5 h hn hm with h'|⟨rfl,h1,h2,h3⟩
  ·exact hsr.own x o h'
  ·exact (key o h1 h2).2.2
 ·rw [e2] at ha; rw [e1];have:=hsr.avlt x o ha;have:=hle.size;rw [e1] at this;omega
 ·rw [e7] at h1 h2 ⊢; rw [e1];simp only at h1 h2 ⊢;by_cases tw:i=Hy C c
  ·rw [if_pos tw] at h1 h2 ⊢;exact hlt (by simp only at h1 h2; omega)
  ·rw [if_neg tw] at h1 h2 ⊢;have h3:=hsr.tlt i o (old i aq tw) h1 h2;have h4:=hle.size;rw [e1] at h4;omega
theorem Wf {t:TypeId} {sz:Nat} (h:apT P t=some sz):∃ e i z,P.underlying t=some (.slice e)/\P.info? e=some i/\i.zero=some z/\i.size=sz/\0<sz/\z.cells.size=sz/\i.bytes<=1048576/\(sz=3->i.bytes<=40):=by
 unfold apT at h;split at h
 ·rename_i e he;split at h
  ·rename_i s z i hs hz hi;split at h
   ·rename_i hh;simp only [A2] at h; subst h;simp only [szOf,hi,C3,A2] at hs;simp only [Ax,hi,I7,Ca] at hz;obtain ⟨v,hv,rfl⟩:=hz;exact ⟨e,i,v,Dy he,hi,hv,hs,aA,by simpa using hh.1,hh.2.1,fun e=>hh.2.2 aA⟩
   ·simp at h
  ·simp at h
 ·simp at h
theorem No {sz:Nat} : ∀ {es:List (List AV)},B9 sz es=true->(∀ e ∈ es,e.length=sz):=by
 intro es h e he;simp only [B9,Cv,beq_iff_eq] at h;exact h e he
def Src (C:Cx) (ys:List (List AV)) (vy:Value):Prop:=∃ a m cap,vy=.slice a m cap/\ys.length=m/\(m=0\/∃ b o news,a=some ⟨b,o,none⟩/\PRs C.w C.Avoid ys.flatten news/\∀ (j:Nat) u,news[j]?=some u->C.w.cell? ⟨b,o+j,none⟩=some u)
theorem Ad0 {sz:Nat} : ∀ {l:List (List AV)},(∀ e ∈ l,e.length=sz)->l.flatten.length=l.length*sz
 | [],_=>by simp
 | e :: l,h=>by
  rw [Fx,Cs,h e (by simp),Ad0 (l:=l) fun x hx=>h x bJ,Ck,Od]; omega
theorem Yu [Globs] {C:Cx} (hsr:SR C) {t ty:TypeId} {x y av:AV} {vx vy:Value} {tk':List Nat} {ys0:List (List AV)} {c20:Cap} (hx:VR C x vx) (px:y=.frz ys0 c20) (zr:Src C ys0 vy) (h:apA P t x y C.tk=some (av,tk')) :
  ∃ v C',(Oa #[t,t] ty #[vx,vy]).run P C.w=.ok v C'.w/\Le C C'/\SR C'/\C'.S=C.S/\C'.tk=tk'/\C'.n=C.n/\VR C' av v:=by
 unfold apA at h;split at h
 ·rename_i es c ys c2 sz hT;simp only [AV.frz.injEq] at px;obtain ⟨rfl,rfl⟩:=px;split at h
  ·rename_i hh;obtain ⟨hok,hre,hry,bh⟩:=hh;simp only [A2,Cg] at h;obtain ⟨rfl,rfl⟩:=h;obtain ⟨e,i,z,hu,hi,hz,hsz,hpos,sd,hby,a08⟩:=Wf hT;simp only [VR] at hx;obtain ⟨a,len,cap,rfl,hlen,hcap,hC,hE⟩:=hx;obtain ⟨a2,m,cap2,rfl,hm,hY⟩:=zr;simp only [Agp,F8,Ch,beq_iff_eq,decide_eq_true_eq] at bh;have ek:∃ olds:List Value,olds.length=len*sz/\PRs C.w C.Avoid es.flatten olds/\(olds=[]\/∃ b o,a=some ⟨b,o,none⟩/\Lie C.w C.Avoid b o olds):=by
    rcases hE with rfl|⟨b,o,s',rfl,hr⟩
    ·exact ⟨[],by simp at hlen; simp [<- hlen],by simp [PRs],.inl rfl⟩
    ·by_cases hne:es=[]
     ·subst hne; exact ⟨[],by simp at hlen; simp [<- hlen],by simp [PRs],.inl rfl⟩
     ·have:=M7 hr hre hne;subst this;obtain ⟨l,g1,g2,g3⟩:=Gy hr;exact ⟨l,by rw [g1,hlen],g2,.inr ⟨b,o,rfl,g3⟩⟩
   obtain ⟨olds,fj,il,xw⟩:=ek;by_cases co:m=0
   ·subst co;have hys:ys=[]:=Fm hm;subst hys;have hrun:=T8 (P:=P) C.w t e i ty hu hi a a2 len cap cap2 hcap;obtain ⟨b,lo,aq,hn,hc⟩:∃ b lo aq,Ma C c b lo aq/\(lo<aq->b<C.w.heap.size)/\(cap=len\/∃ cs t,a=some ⟨b,0,none⟩/\(b,lo,aq)=(b,len*sz,cap*sz)/\C.w.heap[b]?=some (.cells cs t (0,0))/\cap*sz<=cs.size):=by
     cases c with
     | unk=>simp [Bd] at hok
     | tight=>exact ⟨0,0,0,.inl (Cc _),aA,.inl hC⟩
     | nilc=>exact ⟨0,0,0,.inl (Cc _),aA,.inl hC.2⟩
     | nl=>simp [Bd] at hok
     | nn=>simp [Bd] at hok
     | tok id ep s =>
      simp only [Bd,Ch,beq_iff_eq] at hok;obtain ⟨rfl,hok⟩:=hok;obtain ⟨k,h1,h2,h3⟩:=hC;rw [hok] at h1; simp only [A2] at h1; subst h1;rcases h3 rfl with h3|⟨b,cs,t',g1,g2,g3,g4⟩
      ·exact ⟨0,0,0,.inl (Cc _),aA,.inl h3⟩
      ·exact ⟨b,len*s,cap*s,.inr (.inr ⟨id,ep,s,rfl,by rw [g2],by rw [g2]; exact Cc _,by rw [g2]; exact Cc _⟩),fun _=>(Cj.1 g3).1,.inr ⟨cs,t',g1,rfl,g3,g4⟩⟩
    have hle:Le C (C.tok C.w c (b,lo,aq)):=Le.of_tok hok hn rfl rfl rfl (Cc _) (fun _ _ _ h _=>h) (fun _ _ _=>rfl) (fun _ cs _ _ h=>⟨cs,h,rfl⟩);obtain ⟨e1,e2,e3,e4,e5,e6,-⟩:=Mj (w:=C.w) (x:=(b,lo,aq)) hok;refine ⟨.slice a len cap,C.tok C.w c (b,lo,aq),Za4r,hle,SR.of_tok hsr hok hn hc.1 hle (fun _ _=>rfl),e4,e6,e5,?_⟩;simp only [VR,F4];refine ⟨a,len,cap,rfl,hlen,hcap,J2 hok hc.2,hE.imp id ?_⟩;rintro ⟨b,o,s',rfl,hr⟩;exact ⟨b,o,s',rfl,Bf.stays hle.stays _ _ _ _ hr⟩
   ·obtain ⟨b2,o2,news,rfl,az,xx⟩:=hY.resolve_left co;have b8:news.length=m*sz:=by rw [<- Lp az,Ad0 (No hry),hm]
    have hone:=V6 az;have fy:∀ (j:Nat) u,news[j]?=some u->C.w.cell? (iB ⟨b2,o2,none⟩ j)=some u:=fun j u hj=>by rw [Du]; exact xx j u hj
    have gm:∀ e ∈ es++ys,e.length=sz:=fun x hx=>by
     rcases C4.1 hx with hx|hx
     ·exact No hre x hx
     ·exact No hry x hx
    by_cases dw:(∃ id ep s b cs t',c=.tok id ep s/\nth C.tk id=some ep/\s=sz/\a=some ⟨b,0,none⟩/\C.ψ id=(b,len*sz,cap*sz)/\C.w.heap[b]?=some (.cells cs t' (0,0))/\cap*sz<=cs.size)/\len+m<=cap
    ·obtain ⟨⟨id,ep,s,b,arr,t',rfl,hid,rfl,rfl,hψ,hb,ag⟩,f8⟩:=dw;have jj:(len+m)*s<=cap*s:=Ic _ f8;have zt:(len+m)*s=len*s+m*s:=Sg _ _ _;have hms:0<m*s:=Nat.mul_pos aA hpos;have hrun:=Ki (P:=P) C.w t ty e i hu hi b len cap t' arr hb ⟨b2,o2,none⟩ m cap2 news cV fy hone f8 (by rw [hsz,b8]; omega);rw [hsz] at hrun;generalize hA:(arr.toList.take (len*s)++news++arr.toList.drop (len*s+news.length)).toArray=arr' at hrun;have jz:arr'.size=arr.size:=by rw [<- hA]; simp; omega
     have zu:∀ o,(o<len*s\/(len+m)*s<=o)->arr'[o]?=arr[o]?:=by
      intro o ho;rw [<- hA];simp only [O6];rcases ho with ho|ho
      ·rw [Fa,Ct aB,Io ho]; simp
      ·rw [C6 aB,Sq,<- Array.getElem?_toList];congr 1;simp;omega
     have hlt:b<C.w.heap.size:=(Cj.1 hb).1;have dm:=Bh hid;have py:∀ o,len*s<=o->o<cap*s->C.Mut b o:=fun o h1 h2=>.inr ⟨id,dm,by rw [hψ],Za55,by rw [hψ]; exact h2⟩;have hn:Ma C (.tok id ep s) b ((len+m)*s) (cap*s):=.inr (.inr ⟨id,ep,s,rfl,by rw [hψ],dY,by rw [hψ]; exact Cc _⟩);have hle:Le C (C.tok (C.w.setRow b arr') (.tok id ep s) (b,(len+m)*s,cap*s)):=by
      refine Le.of_tok hok hn rfl rfl rfl (by simp) ?_ ?_ ?_
      ·intro x o v hv hnm;by_cases uh:x=b
       ·subst uh;have:o<len*s\/(len+m)*s<=o:=by
         rcases F3 o (len*s) with h|h
         ·exact .inl h
         ·right;rcases F3 o (cap*s) with h'|h'
          ·exact absurd (py o h h') hnm
          ·omega
        have h1:=setRow_heap C.w x arr arr' t' (0,0) hb;simp only [Fz,hb] at hv;simp only [Fz,h1,zu o this];exact hv
       ·simpa [Fz,setRow_other C.w b x arr' uh] using hv
      ·intro x _ hnm;refine setRow_other C.w b x arr' fun h=>hnm (len*s) (h ▸ py _ (Cc _) aA)
      ·intro x d t'' fz hd;by_cases uh:x=b
       ·subst uh;rw [hb] at hd;simp only [A2,iF] at hd;obtain ⟨rfl,rfl,rfl⟩:=hd;exact ⟨arr',setRow_heap _ _ _ _ _ _ hb,jz⟩
       ·exact ⟨d,by rw [setRow_other _ _ _ _ uh]; exact hd,rfl⟩
     obtain ⟨e1,e2,e3,e4,e5,e6,e7,e8,e9,e10,e11⟩:=Mj (w:=C.w.setRow b arr') (x:=(b,(len+m)*s,cap*s)) hok;have pz:=SR.of_tok hsr hok hn (fun _=>aI) hle (fun i hi=>setRow_other _ _ _ _ fun h=>hsr.apart i id (len*s) hi dm (by rw [hψ]; exact h) (by rw [hψ]; exact Cc _) dY);refine ⟨.slice (some ⟨b,0,none⟩) (len+m) cap,_,Za4r,hle,pz,e4,e6,e5,?_⟩;have tx:(C.w.setRow b arr').heap[b]?=some (.cells arr' t' (0,0)):=setRow_heap _ _ _ _ _ _ hb;simp only [VR];refine ⟨_,len+m,cap,rfl,aB,f8,J2 hok (.inr ⟨arr',t',rfl,rfl,tx,aA⟩),.inr ⟨b,0,s,rfl,?_⟩⟩;have ah:=hle.stays;refine Gq (l:=olds++news) gm Za0v (Kg fun j v hj=>?_);rw [Fg];rcases F3 j olds.length with xy|xy
     ·rw [Ct xy] at hj;rcases xw with rfl|⟨b',o',ha,hl⟩
      ·simp at xy
      ·simp only [A2,Addr.mk.injEq,and_true] at ha;obtain ⟨rfl,rfl⟩:=ha;have:=Kf (hl.stays ah) j v hj;exact Ya15
     ·rw [C6 xy] at hj;have hjn:=(Fu.1 hj).1;have h1:len*s<=j:=aA
      have h2:j<(len+m)*s:=aA
      constructor
      ·rw [e1];simp only [Fz,tx];have:arr'[j]?=some v:=by
        rw [<- hA];simp only [O6];rw [Ct aB,C6 aB];rw [<- hj]; congr 1; simp; omega
       exact Ya15
      ·rintro (db|⟨k,hk,hφ⟩|⟨k,hk,g1,g2,g3⟩)
       ·rw [e2] at db;exact hsr.own b j (py j h1 aA) db
       ·rw [e4] at hk; rw [e3] at hφ;exact hsr.apart k id j hk dm (by rw [hψ]; exact hφ) Za55 dY
       ·rw [e7] at g1 g2 g3;dsimp only at g1 g2 g3;by_cases mf:k=id
        ·rw [if_pos (show k=Hy C (.tok id ep s) from mf)] at g1 g2 g3;simp only at g2; omega
        ·rw [if_neg (show ¬ k=Hy C (.tok id ep s) from mf)] at g1 g2 g3;have y6:=(e10 k hk).resolve_left mf;exact mf (hsr.tok k id j y6 dm (by rw [hψ]; exact g1) g2 g3 Za55 dY)
    ·have ft:cap<len+m:=by
      rcases F3 cap (len+m) with h|h
      ·exact h
      ·exfalso;cases c with
       | unk=>simp [Bd] at hok
       | tight=>have:cap=len:=hC; omega
       | nilc=>have:cap=len:=hC.2; omega
       | nl=>simp [Bd] at hok
       | nn=>simp [Bd] at hok
       | tok id ep s =>
        simp only [Bd,Ch,beq_iff_eq] at hok;obtain ⟨rfl,hok⟩:=hok;obtain ⟨k,h1,h2,h3⟩:=hC;rw [hok] at h1; simp only [A2] at h1; subst h1;rcases h3 rfl with h3|⟨b,cs,t',g1,g2,g3,g4⟩
        ·omega
        ·exact dw ⟨⟨id,ep,s,b,cs,t',rfl,hok,rfl,g1,g2,g3,g4⟩,h⟩
     have jj:len*sz+m*sz=(len+m)*sz:=(Sg _ _ _).symm;have eo:(len+m)*i.bytes<=140737488355328:=by
      rcases bh with bh|⟨h3,bh⟩
      ·have:(len+m)*i.bytes<=1048576*1048576:=Ov aA hby
       omega
      ·have:(len+m)*i.bytes<=3518437208883*40:=Ov aA (a08 h3);omega
     obtain ⟨ncap,zs,hrun,f9,hzl⟩:∃ ncap zs,(Oa #[t,t] ty #[.slice a len cap,.slice (some ⟨b2,o2,none⟩) m cap2]).run P C.w=.ok (.slice (some ⟨C.w.heap.size,0,none⟩) (len+m) ncap) (C.w.drew.alloc (.cells (olds++news++zs).toArray e))/\len+m<=ncap/\zs.length=(ncap - (len+m))*sz:=by
      cases a with
      | none =>
       have ui:len=0:=by
        rcases xw with h|⟨b,o,h,-⟩
        ·rw [h] at fj;simp only [Cu] at fj;rcases Nat.mul_eq_zero.1 fj.symm with h|h
         ·exact h
         ·omega
        ·simp at h
       have uj:cap=0:=by
        cases c with
        | unk=>simp [Bd] at hok
        | tight=>have:cap=len:=hC; omega
        | nilc=>have:cap=len:=hC.2; omega
        | nl=>simp [Bd] at hok
        | nn=>simp [Bd] at hok
        | tok id ep s =>
         simp only [Bd,Ch,beq_iff_eq] at hok;obtain ⟨k,h1,h2,h3⟩:=hC;rw [hok.2] at h1; simp only [A2] at h1; subst h1;rcases h3 rfl with h3|⟨b,cs,t',g1,-⟩
         ·omega
         ·simp at g1
       subst ui uj;have ho:olds=[]:=Fm (by simpa using fj);subst ho;have:=run_append_nil (P:=P) C.w t ty e i z hu hi hz ⟨b2,o2,none⟩ m cap2 news cV fy aA aA (by simp only [Fg] at eo; omega);refine ⟨grownCap C.w m 0 e,(Oe z.cells (grownCap C.w m 0 e - m)).toList,?_,by have:=grownCap_ge C.w m 0 e; omega,by simp [size_zeroCells,sd]⟩;rw [this];simp only [Fg,Cw];congr 3;apply gS; simp
      | some ad =>
       obtain ⟨b,o,hab,hcells⟩:∃ b o,(olds=[]\/ad=⟨b,o,none⟩)/\∀ (j:Nat) v,olds[j]?=some v->C.w.cell? (ad.add j)=some v:=by
        rcases xw with rfl|⟨b,o,h,hl⟩
        ·exact ⟨0,0,.inl rfl,by simp⟩
        ·simp only [A2] at h; subst h;exact ⟨b,o,.inr rfl,fun j v hj=>by rw [Du]; exact (Kf hl j v hj).1⟩
       have:=run_append_grow (P:=P) C.w t ty e i z hu hi hz ad len cap olds (by rw [hsz]; exact fj) hcells ⟨b2,o2,none⟩ m cap2 news cV fy ft aA (growslice_fits ft eo);refine ⟨grownCap C.w (len+m) cap e,(Oe z.cells (grownCap C.w (len+m) cap e - (len+m))).toList,?_,grownCap_ge C.w (len+m) cap e,by simp [size_zeroCells,sd]⟩;rw [this];congr 3;apply gS; simp
     have hbel:Below C.w.heap.size C.w (C.w.drew.alloc (.cells (olds++news++zs).toArray e)):=((C5 _ _).drew).alloc (by simp) _;have su:(C.w.drew.alloc (.cells (olds++news++zs).toArray e)).heap[C.w.heap.size]?=some (.cells (olds++news++zs).toArray e (0,0)):=An C.w.drew _;have hn:Ma C c C.w.heap.size ((len+m)*sz) (ncap*sz):=.inr (.inl (Cc _));have hle:Le C (C.tok (C.w.drew.alloc (.cells (olds++news++zs).toArray e)) c (C.w.heap.size,(len+m)*sz,ncap*sz)) :=
      Le.of_tok hok hn hbel.os hbel.tape hbel.output hbel.size (fun b o v hv _=>Za3n) (fun b hb _=>hbel.block b hb) (fun b cs t fz hb=>⟨cs,Di hbel hb,rfl⟩)
     have pz:=SR.of_tok hsr hok hn (fun _=>(Cj.1 su).1) hle (fun i hi=>hbel.block _ (Ny hsr hi));obtain ⟨e1,e2,e3,e4,e5,e6,e7,e8,e9,e10,e11⟩:=Mj (w:=C.w.drew.alloc (.cells (olds++news++zs).toArray e)) (x:=(C.w.heap.size,(len+m)*sz,ncap*sz)) hok;refine ⟨_,_,Za4r,hle,pz,e4,e6,e5,?_⟩;have hzz:(ncap - (len+m))*sz=ncap*sz - (len+m)*sz:=Nat.sub_mul _ _ _;have hnn:(len+m)*sz<=ncap*sz:=Ic _ f9;simp only [VR];refine ⟨_,len+m,ncap,rfl,aB,f9,J2 hok (.inr ⟨_,e,rfl,rfl,su,aB⟩),.inr ⟨C.w.heap.size,0,sz,rfl,?_⟩⟩;have ah:=hle.stays;refine Gq (l:=olds++news) gm Za0v (Kg fun j v hj=>?_);rw [Fg];have fu:j<(len+m)*sz:=by
      exact Ya18
     constructor
     ·rw [e1];simp only [Fz,su];have zw:j<(olds++news).length:=(Fu.1 hj).1;have:(olds++news++zs)[j]?=some v:=by rw [Ct zw]; exact hj
      exact Ya15
     ·rintro (db|da)
      ·rw [e2] at db;have:=hsr.avlt _ _ db; omega
      ·rcases Q5 hok hn da with h|⟨-,h1,h2,-⟩
       ·exact hsr.fresh (Cc _) (.inr h)
       ·omega
  ·simp at h
 ·simp at h
theorem Yt [Globs] {C:Cx} (hsr:SR C) {t ty:TypeId} {x y av:AV} {vx vy:Value} {tk':List Nat} (hx:VR C x vx) (hy:VR C y vy) (h:apA P t x y C.tk=some (av,tk')) :
  ∃ v C',(Oa #[t,t] ty #[vx,vy]).run P C.w=.ok v C'.w/\Le C C'/\SR C'/\C'.S=C.S/\C'.tk=tk'/\C'.n=C.n/\VR C' av v:=by
 have h0:=h;unfold apA at h;split at h
 ·rename_i es c ys c2 sz hT;refine Yu hsr hx rfl ?_ h0;simp only [VR] at hy;obtain ⟨a,m,cap,rfl,hm,-,-,hY⟩:=hy;refine ⟨a,m,cap,rfl,hm,?_⟩;rcases hY with rfl|⟨b,o,s',rfl,hr⟩
  ·left; simpa using hm.symm
  ·right;obtain ⟨l,g1,g2,g3⟩:=Gy hr;exact ⟨b,o,l,rfl,g2,fun j u hj=>(Kf g3 j u hj).1⟩
 ·simp at h
theorem Xy {w:World} {e:TypeId} {z:List AV} {s m:Nat} (hz:Ax P e=some z) (sd:z.length=s) (lu:0<s) :
  ∃ (zv:Value) (arr:Array Value),(zeroValue e).run P w=.ok zv w/\arr.toList.map cst1=(Ci m z).flatten/\(m*s=0->arr=#[])/\(m*s≠0->arr=(S7 (m*s)).map fun x=>zv.cells[x % zv.cells.size]!):=by
 obtain ⟨zv,hz1,rfl⟩:=Jw (w:=w) hz;have hl:zv.cells.toList.length=s:=by simpa using sd
 have m6:zv.cells.size=s:=bP
 by_cases hm:m*s=0
 ·have co:m=0:=by
   rcases Nat.mul_eq_zero.1 hm with h|h
   ·exact h
   ·omega
  exact ⟨zv,#[],hz1,by simp [co],fun _=>rfl,fun h=>absurd hm h⟩
 ·refine ⟨zv,(S7 (m*s)).map fun x=>zv.cells[x % zv.cells.size]!,hz1,?_,fun h=>absurd h hm,fun _=>rfl⟩;have:=Tx zv.cells.toList s hl lu m;have e1:((S7 (m*s)).map (zv.cells[· % zv.cells.size]!)).toList=(Ci m zv.cells.toList).flatten:=by
   rw [<- this];simp [m6,Array.toList_range];intro a _; rw [getElem!_def]; cases zv.cells[a % s]? <;> rfl
  rw [e1,List.map_flatten,iT]
theorem Aj2 {C:Cx} {t:TypeId} {l c:AV} {vl vc:Value} {n sz:Nat} {cs:List AV} (hl:VR C l vl) (hc:VR C c vc) (h:mkA P t l c=some (n,sz,cs)) :
  ∃ (e:TypeId) (m:Nat) (arr:Array Value),(Instr.makeSlice t vl vc).run P C.w=.ok (.slice (some ⟨C.w.heap.size,0,none⟩) n m) (C.w.alloc (.cells arr e))/\arr.toList.map cst1=cs/\n<=m/\cs.length=m*sz/\intN l=some n:=by
 unfold mkA mkB at h;split at h
 ·rename_i l' c' sz' z b h1 h2 h3 h4 h5;split at h
  ·rename_i hh;simp only [A2,Cg] at h;obtain ⟨rfl,rfl,rfl⟩:=h;obtain ⟨g1,g2,g3,g4⟩:=hh;cases he:A7 P t with
   | none=>rw [he] at h3; simp at h3
   | some e =>
    rw [he] at h3 h4 h5;simp only [I7] at h3 h4 h5;obtain ⟨kl,rfl⟩:=Ej h1 hl;obtain ⟨kc,rfl⟩:=Ej h2 hc;obtain ⟨zv,arr,r1,r2,r3,r4⟩:=Xy (w:=C.w) (m:=c') h4 g4 aA;refine ⟨e,c',arr,?_,r2,g1,?_,h1⟩
    ·simp only [Je,Ca] at h5;obtain ⟨i,hi,rfl⟩:=h5;have w1:Cf.wrap (l':Int)=l':=Og _ aA;have w2:Cf.wrap (c':Int)=c':=Og _ aA;have hb:(i.bytes:Int)*(c':Int)<=2 ^ 40:=by
      have:i.bytes*c'<=1048576*1048576:=Ov g3 g2;have e:((i.bytes*c':Nat):Int)=(i.bytes:Int)*c':=by simp
      rw [<- e]; omega
     have xz:c'*i.bytes<=2 ^ 40:=by
       rw [O1]; have:((i.bytes*c':Nat):Int)=(i.bytes:Int)*c':=by simp
       omega
     have n1:¬ ((c':Int)<0\/(i.bytes:Int)*c' > 2 ^ 48):=aA
     have n2:¬ ((l':Int)<0):=aA
     have n3:¬ ((l':Int) > (c':Int)):=aA
     have n4:¬ (c'*i.bytes > roomBytes):=by unfold roomBytes; omega
     have bh:(askRoom (c'*i.bytes)).run P C.w=.ok () C.w:=by simp [askRoom,n4]
     simp [Instr.makeSlice,Fj,Bk (Dy he),asInt,asIntOf,typeInfo,w1,w2,hi];rw [if_neg aA];simp only [bh,Ev,Er h3];by_cases hm:c'*(sz'+1)=0
     ·have e0:∀ f:Nat->Value,(S7 0).map f=#[]:=fun f=>by simp
      rw [if_pos hm,r3 hm,hm,e0];rfl
     ·rw [if_neg hm,r4 hm,r1];rfl
    ·have:∀ (m:Nat) (z:List AV),(Ci m z).flatten.length=m*z.length:=fun m z=>by simp
     rw [this,g4]
  ·simp at h
 ·simp at h
theorem Aeo {α:Type} : ∀ {l:List α} {i:Nat} {x:α},nth l i=some x->put l i x=l
 | _ :: _,0,_,h=>dV
 | _ :: l,i+1,_,h=>by simp only [nth] at h; simp only [put,Aeo h]
 | [],_,_,h=>bQ
theorem Agw [Globs] {C:Cx} (hsr:SR C) {sz n m:Nat} {s:AV} {vs:Value} {cs:List AV} (hs:VR C s vs) (hl:lenA s=some m) (hnm:n<=m) (h:srcA sz n s C.S=some cs) :
  ∃ news:List Value,(iS sz n vs).run P C.w=.ok news.toArray C.w/\VRs C cs news/\news.length=n*sz:=by
 unfold srcA at h;split at h
 ·rename_i es c;split at h
  ·rename_i hr;simp only [A2] at h; subst h;simp only [lenA,A2] at hl;simp only [VR] at hs;obtain ⟨a,len,cap,rfl,hlen,-,-,hE⟩:=hs;by_cases hn:n=0
   ·subst hn;exact Ya1d
   ·rcases hE with rfl|⟨b,o,s',rfl,hp⟩
    ·simp at hl; omega
    ·have hne:es≠[]:=by rintro rfl; simp at hl; omega
     have:=M7 hp hr hne;subst this;obtain ⟨l,g1,g2,g3⟩:=Gy (Pd n hp);have jh:l.length=n*s':=by rw [g1,Ix,show min n es.length=n by omega]
     refine ⟨l,?_,Jk g2,jh⟩;exact run_firstCells_some (P:=P) C.w s' n ⟨b,o,none⟩ len cap l jh (fun j v hj=>by rw [Du]; exact (Kf g3 j v hj).1)
  ·simp at h
 ·rename_i id ep off len' sz';split at h
  ·rename_i hsz;subst hsz;split at h
   ·rename_i ce he;obtain ⟨e,h1,h2,rfl⟩:=Dz he;simp only [lenA,A2] at hl;subst hl;simp only [VR] at hs;obtain ⟨b,a,cap,rfl,hcap,ha,hn0,hb⟩:=hs;obtain rfl:=(hb e h1 h2).1;obtain ⟨hlt,arr,t',h3,h4⟩:=hsr.ent id e h1;obtain ⟨p,h4⟩:=entP h4;obtain ⟨h5,h6⟩:=Jz (Ls off h4) (by rw [fP]; exact Alc _ h);by_cases hn:n=0
    ·subst hn;rw [O0] at h;simp only [takeN,A2] at h; subst h;exact Ya1d
    ·rcases ha with ha|rfl
     ·omega
     ·have jh:((arr.toList.drop off).take (n*sz)).length=n*sz:=by simp at h6 ⊢; omega
      refine ⟨(arr.toList.drop off).take (n*sz),?_,h5,jh⟩;refine run_firstCells_some (P:=P) C.w sz n ⟨C.φ id,off,none⟩ len' cap _ jh (fun j v hj=>?_);rw [Du];have dv:j<n*sz:=by rw [<- jh]; exact (Fu.1 hj).1
      exact Ya1t
   ·simp at h
  ·simp at h
 ·simp at h
theorem Aip [Globs] {C:Cx} (hsr:SR C) {t t' ty:TypeId} {d s:AV} {vd vs:Value} {n:Nat} {S':List Ent} (hd:VR C d vd) (hs:VR C s vs) (h:cpA P t d s C.S=some (n,S')) :
  ∃ C',(Builtin.copy_ #[t,t'] ty #[vd,vs]).run P C.w=.ok (.int .i64 (n:Int)) C'.w/\Le C C'/\SR C'/\C'.S=S'/\C'.tk=C.tk/\C'.n=C.n:=by
 unfold cpA at h;split at h
 ·rename_i id ep off len sz m hm;split at h
  ·rename_i hsz;split at h
   ·rename_i news cs0 zr a1r;split at h
    ·rename_i a09;split at h
     ·rename_i cs' ho;simp only [A2,Cg] at h;obtain ⟨rfl,rfl⟩:=h;obtain ⟨e,h1,h2,rfl⟩:=Dz a1r;obtain ⟨a2,cap2,rfl⟩:=Vm hs hm;obtain ⟨us,r1,r2,r3⟩:=Agw (P:=P) hsr hs hm (Nat.min_le_left _ _) zr;simp only [VR] at hd;obtain ⟨b,a,cap,rfl,hcap,ha,hn0,hb⟩:=hd;obtain rfl:=(hb e h1 h2).1;obtain ⟨hlt,arr,tt,h3,h4⟩:=hsr.ent id e h1;obtain ⟨p,h4⟩:=entP h4;obtain ⟨h5,h6⟩:=Jp (Ank p ho);have hl2:=A3 r2;have pu:=A3 h4;simp only [Ih] at pu;cases he:A7 P t with
      | none=>rw [he] at hsz; simp at hsz
      | some el =>
       rw [he] at hsz;simp only [I7] at hsz;have a1a:Nat.min m len=min m len:=rfl;by_cases hn:min m len=0
       ·rw [hn] at r3;have hus:us=[]:=Fm aA;subst hus;have gj:news=[]:=Fm (by simpa using hl2);subst gj;have:cs'=e.cells:=by
         have:cs'++p=e.cells++p:=by rw [h5]; simp [puts]
         exact List.append_cancel_right this
        subst this;have a1s:put C.S id ⟨ep,e.cells⟩=C.S:=by subst h2; exact Aeo h1
        refine ⟨C,?_,Le.refl C,hsr,a1s.symm,rfl,rfl⟩;rw [hn] at r1 ⊢;cases a <;> simp [Builtin.copy_,Bk (Dy he),jA,a1a,hn,Er hsz,r1,goInt,storeCells]
       ·have ha':a=some ⟨C.φ id,off,none⟩:=ha.resolve_left (by
         intro h0;rw [h0] at hn;exact hn (Nat.min_eq_right (Co _)))
        subst ha';have ag:off+0+us.length<=arr.size:=aA
        have hrun:=run_storeCells_at P (C.φ id) off tt us 0 arr C.w h3 ag (fun v hv'=>Nm r2 a09 v hv');have ub:=Ack (us:=us) (l:=arr.toList) (o:=off) aB;have ik:VRs C (cs'++p) (arr.toList.take off++us++arr.toList.drop (off+us.length)):=by
         rw [<- ub,h5]; exact Lt h4 r2
        refine ⟨{ C with w:=C.w.setRow (C.φ id) (arr.toList.take off++us++arr.toList.drop (off+us.length)).toArray,S:=put C.S id ⟨ep,cs'⟩ },?_,Le.of_store hsr h1 h2.symm h3 ?_,SR.of_store hsr h1 h2.symm h3 ?_ (Aov (by simpa using ik)),rfl,rfl,rfl⟩
        ·simp only [M9] at hrun;simp [Builtin.copy_,Bk (Dy he),jA,a1a,Er hsz,r1,goInt,hrun]
        ·exact Ya0w
        ·exact Ya0w
     ·simp at h
    ·simp at h
   ·simp at h
  ·simp at h
 ·simp at h
end
end
end Go.Proofs.YtcandeobhlfkbaaGreat
