/- Part 5. -/
import Derived.Test.YthelkgdmgihhiaaGreatZB4
import Derived.Laws.AppendOwn
import Derived.Laws.OwnMore
import Derived.Laws.CopyRow
import Derived.IntWalk
open Array renaming getElem?_eq_some_iff->Cj,length_toList->Iv,range->gE,ext'->iV
open Bool renaming and_eq_true->Ci,false_eq_true->C5,or_eq_true->Ht
open Go renaming sizeOf->kJ
open Go.Addr renaming add->jG
open Go.Builtin renaming zeroCells->Ot,append_->O7,firstCells->jY,lenOf->kH
open Go.Instr renaming sureAddr->Sl,loadAt->iL
open Go.IntKind renaming i64->Ce
open Go.Obj renaming cells->iT
open Go.Obj.cells renaming injEq->jL
open Go.Result renaming andThen_ok->Fj
open Go.RowKit.Below renaming refl->Fq,cell->kK
open Go.Sem renaming run_bind->Fv
open Go.World renaming cell?->I7
open List renaming replicate->Cg,length_cons->Cm,cons_append->Cp,length_append->Cs,getElem?_append_left->Cu,mem_append->Cw,nil_append->Cz,getElem?_append_right->C3,all_eq_true->C4,mem_cons->C6,length_nil->C7,flatten_cons->Ff,append_assoc->Fh,getElem?_eq_some_iff->Fk,append_nil->Fp,eq_nil_of_length_eq_zero->Fy,getElem?_take_of_lt->Ii,length_take->Im,getElem?_eq_getElem->It,getElem?_take->I2,all_cons->Oh,getElem?_drop->S7,set_append_right->fX,getElem?_toArray->fY,drop_append->gI,map_replicate->iE,flatten_append->jP
open Nat renaming le_refl->Cf,zero_le->Cl,mul_le_mul_right->E5,zero_add->Fo,lt_of_lt_of_le->Ft,lt_or_ge->Ie,add_zero->Io,mul_comm->Ip,mul_le_mul->Ix,lt_succ_self->I4,add_mul->Ns,succ_mul->Oc,zero_mul->Oj,le_succ->jI
open Option renaming map_eq_some_iff->Cb,map_some->Cy,bind_some->Oo
open Option.some renaming injEq->A3
open Prod.mk renaming injEq->Ch
namespace Go.Proofs.YthelkgdmgihhiaaGreat
section
open Go.RowKit
section
variable {P:Program}
theorem Pi {C:Cx} {t:TypeId} {sz:Nat} {bb:Bool} {b o:Nat} {cs:List AV} {vs:List Value} {av:AV} (hs:szOf P t=some sz) (ha:aggT P t=some bb) (hx:VRs C cs vs) (hl:∀ (j:Nat) (v:Value),vs[j]?=some v->C.w.cell? ⟨b,o+j,none⟩=some v)
  (h:partA bb sz cs=some av):Has P C (loadVar t ⟨b,o,none⟩) av:=by
 unfold partA at h;cases bb with
 | true =>
  simp only [if_true,Cb] at h;obtain ⟨ds,h1,rfl⟩:=h;obtain ⟨h2,h3⟩:=Kg hx h1;have ph:(vs.take sz).length=sz:=cV
  have:=run_loadCells_list (P:=P) C.w ⟨b,o,none⟩ (vs.take sz) (fun j v hj=>by
   rw [Dv];refine hl j v ?_;rw [I2] at hj;split at hj
   ·exact hj
   ·simp at hj)
  rw [ph] at this;refine ⟨.agg (vs.take sz).toArray,by simp [loadVar,Vu ha,E2 hs,this],?_⟩;simp only [VR];exact ⟨_,rfl,h2⟩
 | false =>
  simp only [C5,if_false] at h;obtain ⟨v,h1,h2⟩:=Wp hx h;refine ⟨v,?_,h2⟩;have:=hl 0 v h1;simp only [Io] at this;simp [loadVar,Vu ha,this]
theorem Afb {C:Cx} : ∀ {a b:List AV} {l:List Value},VRs C (a++b) l->∃ l1 l2,l=l1++l2/\VRs C a l1/\VRs C b l2
 | [],b,l,h=>⟨[],l,rfl,bX,h⟩
 | x :: a,b,v :: l,h=>by
  simp only [Cp,VRs] at h;obtain ⟨l1,l2,rfl,h1,h2⟩:=Afb (a:=a) h.2;exact ⟨v :: l1,l2,rfl,by simp only [VRs]; exact ⟨h.1,h1⟩,h2⟩
 | _ :: _,_,[],h=>by simp only [Cp,VRs] at h
theorem entP {C:Cx} {cells:List AV} {l:List Value} (h:∃ vs r,l=vs++r/\VRs C cells vs):∃ p,VRs C (cells++p) l:=by
 obtain ⟨vs,r,rfl,h⟩:=h;exact ⟨_,Hg h (X6 r)⟩
theorem As1 {C:Cx} {cells p:List AV} {l:List Value} (h:VRs C (cells++p) l):∃ vs r,l=vs++r/\VRs C cells vs:=by
 obtain ⟨l1,l2,e,h1,-⟩:=Afb h;exact ⟨l1,l2,e,h1⟩
theorem Arf (p:List AV):∀ {cs:List AV} {o:Nat} {vs cs':List AV},over cs o vs=some cs'->over (cs++p) o vs=some (cs'++p)
 | cs,0,[],cs',h=>by
  have:cs=cs':=by cases cs <;> simpa [over] using h
  subst this;cases (cs++p) <;> rfl
 | c :: cs,k+1,vs,cs',h=>by
  exact Ya1b
 | _ :: cs,0,v :: vs,cs',h=>by
  exact Ya1b
 | [],0,_ :: _,_,h=>fG
 | [],_+1,_,_,h=>fG
theorem Aoo (p:List AV):∀ {n:Nat} {cs x:List AV},takeN n cs=some x->takeN n (cs++p)=some x
 | 0,_,_,h=>by simpa [takeN] using h
 | n+1,[],_,h=>by simp [takeN] at h
 | n+1,c :: cs,x,h=>by
  simp only [takeN,Cb] at h;obtain ⟨y,h,rfl⟩:=h;simp only [Cp,takeN,Aoo p h,Cy]
theorem Axy (p:List AV) {b:Bool} {n:Nat} {cs:List AV} {x:AV} (h:partA b n cs=some x):partA b n (cs++p)=some x:=by
 unfold partA at h ⊢;cases b with
 | true =>
  simp only [if_true,Cb] at h ⊢;obtain ⟨y,h,rfl⟩:=h;exact ⟨y,Aoo p h,rfl⟩
 | false =>
  simp only [C5,if_false] at h ⊢;cases cs with
  | nil=>simp [nth] at h
  | cons c cs=>exact h
theorem Ds {S:List Ent} {id ep:Nat} {cs:List AV} (h:entAt S id ep=some cs):∃ e,nth S id=some e/\e.ep=ep/\e.cells=cs:=by
 unfold entAt at h;split at h
 ·rename_i e he;split at h
  ·rename_i oe; simp only [A3] at h; exact ⟨e,he,oe,h⟩
  ·simp at h
 ·simp at h
theorem Abv [Globs] {C:Cx} (am:SR C) {t:TypeId} {a av:AV} {va:Value} (hx:VR C a va) (h:ldA P t a C.S=some av):Has P C (iL t va) av:=by
 unfold ldA at h;split at h
 ·rename_i sz bb hs ha;split at h
  ·rename_i cs;simp only [VR] at hx;obtain ⟨b,o,vs,rfl,hl,hp⟩:=hx;obtain ⟨v,h1,h2⟩:=Pi (b:=b) (o:=o) hs ha (L4 hp) (fun j v hj=>(Kx hl j v hj).1) h;exact ⟨v,by simpa [iL,Sl] using h1,h2⟩
  ·rename_i id ep off;split at h
   ·rename_i cs he;obtain ⟨e,h1,h2,rfl⟩:=Ds he;simp only [VR] at hx;obtain ⟨b,rfl,hn,hb⟩:=hx;obtain rfl:=hb e h1 h2;obtain ⟨-,arr,t',h3,h4⟩:=am.ent id e h1;obtain ⟨p,h4⟩:=entP h4;obtain ⟨v,g1,g2⟩:=Pi (b:=C.φ id) (o:=off) hs ha (L3 off h4) (fun j v hj=>by
     rw [S7] at hj;simp [I7,h3]; simpa using hj) (by rw [gI]; exact Axy _ h)
    exact ⟨v,by simpa [iL,Sl] using g1,g2⟩
   ·simp at h
  ·simp at h
 ·simp at h
theorem Ee {α:Type} : ∀ {l:List α} {i:Nat} {v x:α},nth (put l i v) i=some x->x=v
 | _ :: _,0,_,_,h=>by simpa [put,nth] using h.symm
 | _ :: l,i+1,v,x,h=>Ee (l:=l) (i:=i) (by simpa [put,nth] using h)
 | [],_,_,_,h=>by simp [put,nth] at h
theorem Af {α:Type} : ∀ {l:List α} {i j:Nat} {v:α},i≠j->nth (put l i v) j=nth l j
 | _ :: _,0,0,_,h=>absurd rfl h
 | _ :: _,0,j+1,_,_=>rfl
 | _ :: _,i+1,0,_,_=>rfl
 | _ :: l,i+1,j+1,v,h=>Af (l:=l) (i:=i) (j:=j) aA
 | [],_,_,_,_=>rfl
theorem Ab {α:Type} {l:List α} {i:Nat} (h:i<l.length):∃ x,nth l i=some x:=⟨l[i],by rw [Ae]; exact It h⟩
theorem Aew:∀ {us l:List Value} {o:Nat},o+us.length<=l.length->sets l o us=l.take o++us++l.drop (o+us.length)
 | [],l,o,_=>by simp [sets]
 | u :: us,l,o,h=>by
  simp only [sets];simp only [Cm] at h;rw [Aew aC];have h1:(l.set o u).take (o+1)=l.take o++[u]:=by
   rw [List.take_set,List.take_add_one];have:l[o]?=some (l[o]' aA):=It _;rw [this];simp only [Option.toList_some];rw [fX _ _ aC];simp [show min o l.length=o from by omega]
  have h2:(l.set o u).drop (o+1+us.length)=l.drop (o+(us.length+1)):=by
   rw [List.drop_set_of_lt aA];congr 1;omega
  rw [h1,h2];simp
theorem Pe {C:Cx} : ∀ {cs:List AV} {vs:List Value},VRs C cs vs->cs.all leafOk=true->∀ v ∈ vs,v.oneCell'=true
 | [],[],_,_=>by simp
 | c :: cs,v :: vs,h,hl=>by
  simp only [VRs] at h;simp only [Oh,Ci] at hl;intro u hu;rcases C6.1 hu with rfl|hu
  ·cases c with
   | prim x=>have:=h.1; simp only [VR] at this; subst this; exact hl.1
   | bot=>simp [leafOk] at hl
   | agg _=>simp [leafOk] at hl
   | tup _=>simp [leafOk] at hl
   | frz _ _=>have:=h.1; simp only [VR] at this; obtain ⟨_,_,_,rfl,-⟩:=this; rfl
   | fptr _=>have:=h.1; simp only [VR] at this; obtain ⟨_,_,_,rfl,-⟩:=this; rfl
   | ref _ _ _=>have:=h.1; simp only [VR] at this; obtain ⟨_,rfl,-⟩:=this; rfl
   | sref _ _ _ _ _=>have:=h.1; simp only [VR] at this; obtain ⟨_,_,_,rfl,-⟩:=this; rfl
   | fn _ _=>have:=h.1; simp only [VR] at this; obtain ⟨_,rfl,-⟩:=this; rfl
   | bfn _ _=>have:=h.1; simp only [VR] at this; obtain ⟨_,rfl,-⟩:=this; rfl
   | ifc _ _=>have:=h.1; simp only [VR] at this; obtain ⟨_,rfl,-⟩:=this; rfl
   | mfn _ _ _=>have:=h.1; simp only [VR] at this; obtain ⟨_,rfl,-⟩:=this; rfl
   | lit _ _=>have:=h.1; simp only [VR] at this; obtain ⟨_,_,rfl,-⟩:=this; rfl
  ·exact Pe h.2 hl.2 u hu
 | [],_ :: _,h,_=>aS
 | _ :: _,[],h,_=>aS
theorem Le.of_store [Globs] {C:Cx} (am:SR C) {id:Nat} {e e':Ent} {cs cs':Array Value} {t:TypeId} (he:nth C.S id=some e) (oe:e'.ep=e.ep) (hb:C.w.heap[C.φ id]?=some (.cells cs t (0,0))) (hsz:cs'.size=cs.size) :
  Le C { C with w:=C.w.setRow (C.φ id) cs',S:=put C.S id e' }:=by
 have hm:∀ o,C.Mut (C.φ id) o:=fun o=>.inl ⟨id,A8 he,rfl⟩;refine ⟨rfl,rfl,rfl,by simp,rfl,Cf _,?_,?_,?_,?_,?_,fun _ k hk=>⟨k,hk,Cf _,fun _=>rfl⟩⟩
 ·rintro b o - (⟨i,hi,h⟩|h)
  ·exact .inl ⟨i,eZ,h⟩
  ·exact .inr h
 ·intro b o v hv hn;have hne:b≠C.φ id:=fun h=>hn (h ▸ hm o);have:=setRow_other C.w (C.φ id) b cs' hne;simpa [I7,this] using hv
 ·intro b _ hn;exact setRow_other C.w (C.φ id) b cs' fun h=>hn 0 (h ▸ hm 0)
 ·intro b d t' fz hd;by_cases h:b=C.φ id
  ·subst h;rw [hb] at hd;simp only [A3,jL] at hd;obtain ⟨rfl,rfl,rfl⟩:=hd;exact ⟨cs',setRow_heap _ _ _ _ _ _ hb,hsz⟩
  ·exact ⟨d,Za3w,rfl⟩
 ·intro i x hx _;by_cases h:id=i
  ·subst h;have:=Ee hx;subst this;exact ⟨e,he,oe.symm,rfl⟩
  ·rw [Af h] at hx;exact ⟨x,hx,rfl,rfl⟩
theorem SR.of_store [Globs] {C:Cx} (am:SR C) {id:Nat} {e e':Ent} {cs cs':Array Value} {t:TypeId} (he:nth C.S id=some e) (oe:e'.ep=e.ep) (hb:C.w.heap[C.φ id]?=some (.cells cs t (0,0))) (hsz:cs'.size=cs.size) (hv:∃ vs r,cs'.toList=vs++r/\VRs C e'.cells vs) :
  SR { C with w:=C.w.setRow (C.φ id) cs',S:=put C.S id e' }:=by
 have hle:=Le.of_store am he oe hb hsz;refine ⟨fun i x hx=>?_,fun i j hi hj h=>am.ne i j eZ (by simpa [Am] using hj) h,am.tok,fun i j o hi hj=>am.apart i j o eZ hj,?_,fun b o ha=>by have:=am.avlt b o ha; simpa using this,fun i o hi h1 h2=>by have:=am.tlt i o hi h1 h2; simpa using this,Qe am hle⟩
 ·by_cases h:id=i
  ·subst h;have:=Ee hx;subst this;obtain ⟨vs,r,hv1,un⟩:=hv;exact ⟨by rw [oe]; exact (am.ent id e he).1,cs',t,setRow_heap _ _ _ _ _ _ hb,vs,r,hv1,VRs.mono hle _ _ un⟩
  ·have hx':nth C.S i=some x:=by rw [<- Af h]; exact hx
   obtain ⟨h1,arr,t',h2,vs',r',uo,h3⟩:=am.ent i x hx';refine ⟨h1,arr,t',?_,vs',r',uo,VRs.mono hle _ _ h3⟩;have hne:C.φ i≠C.φ id:=fun hh=>h (am.ne i id (A8 hx') (A8 he) hh).symm;simpa [setRow_other _ _ _ _ hne] using h2
 ·rintro b o (⟨i,hi,h⟩|h)
  ·exact am.own b o (.inl ⟨i,eZ,h⟩)
  ·exact am.own b o (.inr h)
theorem Aoe [Globs] {C:Cx} (am:SR C) {t:TypeId} {a x:AV} {va vx:Value} {S':List Ent} (ha:VR C a va) (hx:VR C x vx) (h:stA P t a x C.S=some S') :
  ∃ C',(Instr.storeAt t va vx).run P C.w=.ok () C'.w/\Le C C'/\SR C'/\C'.S=S'/\C'.tk=C.tk/\C'.n=C.n:=by
 unfold stA at h;split at h
 ·rename_i id ep off sz vs hs hc;split at h
  ·rename_i hh;split at h
   ·rename_i cs he;split at h
    ·rename_i cs' ho;simp only [A3] at h; subst h;obtain ⟨e,h1,h2,rfl⟩:=Ds he;simp only [VR] at ha;obtain ⟨b,rfl,hn,hb⟩:=ha;obtain rfl:=hb e h1 h2;obtain ⟨hlt,arr,t',h3,h4⟩:=am.ent id e h1;obtain ⟨p,h4⟩:=entP h4;obtain ⟨h5,h6⟩:=J7 (Arf p ho);have hv:=G6 hc hx;have hl1:=A5 hv;have oi:=A5 h4;simp only [Iv] at hl1 oi;have b6:off+0+vx.cells.toList.length<=arr.size:=aC
     have hrun:=run_storeCells_at P (C.φ id) off t' vx.cells.toList 0 arr C.w h3 b6 (fun v hv'=>Pe hv hh.2 v hv');have wh:=Aew (us:=vx.cells.toList) (l:=arr.toList) (o:=off) aC;have jr:VRs C (cs'++p) (arr.toList.take off++vx.cells.toList++arr.toList.drop (off+vx.cells.toList.length)):=by
      rw [<- wh,h5]; exact L5 h4 hv
     refine ⟨{ C with w:=C.w.setRow (C.φ id) (arr.toList.take off++vx.cells.toList++arr.toList.drop (off+vx.cells.toList.length)).toArray,S:=put C.S id ⟨ep,cs'⟩ },?_,Le.of_store am h1 h2.symm h3 ?_,SR.of_store am h1 h2.symm h3 ?_ (As1 (by simpa using jr)),rfl,rfl,rfl⟩
     ·have e1:vx.cells.size=sz:=aA
      simp only [Io] at hrun;simp [Instr.storeAt,Sl,storeVar,E2 hs,e1,hrun]
     ·exact Ya14
     ·exact Ya14
    ·simp at h
   ·simp at h
  ·simp at h
 ·simp at h
def Cx.more (C:Cx) (arr:Array Value) (t:TypeId) (cs:List AV):Cx :=
 { C with w:=C.w.alloc (.cells arr t),φ:=fun i=>if i=C.S.length then C.w.heap.size else C.φ i,S:=C.S++[⟨C.n,cs⟩],n:=C.n+1 }
theorem Kr {α:Type} : ∀ {l:List α} {v x:α} {i:Nat},nth (l++[v]) i=some x->(i=l.length/\x=v)\/(i<l.length/\nth l i=some x)
 | [],v,x,0,h=>.inl ⟨rfl,by simpa [nth] using h.symm⟩
 | [],v,x,i+1,h=>bP
 | y :: l,v,x,0,h=>.inr ⟨by simp,h⟩
 | y :: l,v,x,i+1,h=>by
  rcases Kr (l:=l) (i:=i) h with ⟨h1,h2⟩|⟨h1,h2⟩
  ·exact .inl ⟨by simp [h1],h2⟩
  ·exact .inr ⟨aW,h2⟩
theorem Pp [Globs] {C:Cx} (am:SR C) {i:Nat} (h:i<C.S.length):C.φ i<C.w.heap.size:=by
 obtain ⟨e,he⟩:=Ab h;obtain ⟨-,cs,t,h2,-⟩:=am.ent i e he;exact (Cj.1 h2).1
theorem Le.more [Globs] {C:Cx} (am:SR C) (arr:Array Value) (t:TypeId) (cs:List AV):Le C (C.more arr t cs):=by
 have hb:Below C.w.heap.size C.w (C.w.alloc (.cells arr t)):=(Fq _ _).alloc (Cf _) _;refine ⟨rfl,rfl,rfl,hb.size,rfl,jI _,?_,fun b o v hv _=>by rw [show (C.more arr t cs).w=C.w.alloc (.cells arr t) from rfl,kK hb (Gv hv)]; exact hv,fun b hlt _=>hb.block b hlt,fun b d t' fz hd=>⟨d,Dl hb hd,rfl⟩,?_,fun _ k hk=>⟨k,hk,Cf _,fun _=>rfl⟩⟩
 ·rintro b o hlt (⟨i,hi,h⟩|h)
  ·simp only [Cx.more] at hi h;split at h
   ·omega
   ·exact .inl ⟨i,cH,h⟩
  ·exact .inr h
 ·intro i x hx hn;rcases Kr hx with ⟨h1,h2⟩|⟨h1,h2⟩
  ·subst h2; simp at hn
  ·refine ⟨x,h2,rfl,?_⟩;simp only [Cx.more];rw [if_neg aA]
theorem SR.moreP [Globs] {C:Cx} (am:SR C) {arr:Array Value} {t:TypeId} {cs:List AV} (hv:∃ vs r,arr.toList=vs++r/\VRs C cs vs):SR (C.more arr t cs):=by
 have hle:=Le.more am arr t cs;have hb:Below C.w.heap.size C.w (C.w.alloc (.cells arr t)):=(Fq _ _).alloc (Cf _) _;refine ⟨fun i x hx=>?_,fun i j hi hj h=>?_,am.tok,fun i j o hi hj h h1 h2=>?_,?_,fun b o ha=>Ft (am.avlt b o ha) hb.size,fun i o hi h1 h2=>Ft (am.tlt i o hi h1 h2) hb.size,Qe am hle⟩
 ·rcases Kr hx with ⟨h1,rfl⟩|⟨h1,h2⟩
  ·obtain ⟨vs,r,hv1,un⟩:=hv;refine ⟨I4 _,arr,t,?_,vs,r,hv1,VRs.mono hle _ _ un⟩;simp only [Cx.more,h1,if_true];exact Ap _ _
  ·obtain ⟨g1,d,t',g2,vs',r',uo,g3⟩:=am.ent i x h2;refine ⟨Nat.lt_succ_of_lt g1,d,t',?_,vs',r',uo,VRs.mono hle _ _ g3⟩;simp only [Cx.more];rw [if_neg aA];exact Dl hb g2
 ·simp only [Cx.more,Cs,Cm,C7] at hi hj h;by_cases aw:i=C.S.length <;> by_cases eo:j=C.S.length
  ·omega
  ·rw [if_pos aw,if_neg eo] at h;have:=Pp am (i:=j) aA; omega
  ·rw [if_neg aw,if_pos eo] at h;have:=Pp am (i:=i) aA; omega
  ·rw [if_neg aw,if_neg eo] at h;exact am.ne i j aA aA h
 ·simp only [Cx.more,Cs,Cm,C7] at hi h hj h1 h2;by_cases aw:i=C.S.length
  ·rw [if_pos aw] at h;have:=am.tlt j o hj h1 h2; omega
  ·rw [if_neg aw] at h;exact am.apart i j o aA hj h h1 h2
 ·rintro b o (⟨i,hi,h⟩|h)
  ·simp only [Cx.more,Cs,Cm,C7] at hi h;by_cases aw:i=C.S.length
   ·rw [if_pos aw] at h;intro ha;have:=am.avlt b o ha; omega
   ·rw [if_neg aw] at h;exact am.own b o (.inl ⟨i,aA,h⟩)
  ·exact am.own b o (.inr h)
theorem SR.more [Globs] {C:Cx} (am:SR C) {arr:Array Value} {t:TypeId} {cs:List AV} (hv:VRs C cs arr.toList):SR (C.more arr t cs):=SR.moreP am ⟨_,[],by simp,hv⟩
theorem Asf {C:Cx} {arr:Array Value} {t:TypeId} {cs:List AV} : VR (C.more arr t cs) (.ref C.S.length C.n 0) (.pointer (some ⟨C.w.heap.size,0,none⟩)):=by
 simp only [VR];refine ⟨_,rfl,I4 _,fun e he oe=>?_⟩;simp [Cx.more]
theorem Vv (w:World) (t e:TypeId) (i:TypeInfo) (ty:TypeId) (ht:P.underlying t=some (.slice e)) (hi:P.info? e=some i) (base a:Option Addr) (n cap c:Nat) (h:n<=cap) :
  (O7 #[t,t] ty #[.slice base n cap,.slice a 0 c]).run P w=.ok (.slice base n cap) w:=by
 cases base <;> cases a <;> simp [O7,Bk ht,kJ,typeInfo,hi,kH,jY,loadCells,loadCellsFrom,h,storeCells]
theorem K0 (w:World) (t ty e:TypeId) (i:TypeInfo) (ht:P.underlying t=some (.slice e)) (hi:P.info? e=some i)
  (g sLen sCap:Nat) (t':TypeId) (cur:Array Value) (hg:w.heap[g]?=some (.cells cur t' (0,0)))
  (a:Addr) (m c:Nat) (news:List Value) (hl:news.length=m*i.size) (i6:∀ (j:Nat) u,news[j]?=some u->w.cell? (a.add j)=some u) (h1:∀ u ∈ news,u.oneCell'=true)
  (bv:sLen+m<=sCap) (b6:sLen*i.size+news.length<=cur.size) :
  (O7 #[t,t] ty #[.slice (some ⟨g,0,none⟩) sLen sCap,.slice (some a) m c]).run P w =
   .ok (.slice (some ⟨g,0,none⟩) (sLen+m) sCap) (w.setRow g (cur.toList.take (sLen*i.size)++news++cur.toList.drop (sLen*i.size+news.length)).toArray):=by
 have hf:=run_firstCells_some (P:=P) w i.size m a m c news hl i6;have ag:=run_storeCells_at P g (sLen*i.size) t' news 0 cur w hg (by simpa using b6) h1;simp only [Io] at ag;simp [O7,Bk ht,kJ,typeInfo,hi,kH,bv,hf,Dv,ag]
theorem Awa {w:World} {A:Nat->Nat->Prop} {c:AV} {v:Value} (h:PR w A c v):v.oneCell'=true:=by
 unfold PR at h;split at h
 ·rw [h.1]; exact h.2
 ·obtain ⟨_,_,_,rfl,-⟩:=h; rfl
 ·obtain ⟨_,_,_,rfl,-⟩:=h; rfl
 ·rw [h]; rfl
 ·exact h.elim
theorem X1 {w:World} {A:Nat->Nat->Prop} : ∀ {cs:List AV} {vs:List Value},PRs w A cs vs->∀ v ∈ vs,v.oneCell'=true
 | [],[],_=>by simp
 | c :: cs,v :: vs,h=>by
  simp only [PRs] at h;intro u hu;rcases C6.1 hu with rfl|hu
  ·exact Awa h.1
  ·exact X1 h.2 u hu
 | [],_ :: _,h=>bN
 | _ :: _,[],h=>bN
def Cx.tok (C:Cx) (w:World) (c:Cap) (x:Nat × Nat × Nat):Cx :=
 match c with
 | .tok id ep _=>{ C with w:=w,tk:=put C.tk id (ep+1),ψ:=fun i=>if i=id then x else C.ψ i }
 | _=>{ C with w:=w,tk:=C.tk++[0],ψ:=fun i=>if i=C.tk.length then x else C.ψ i }
def Jh (C:Cx) (c:Cap):Nat:=match c with|.tok id _ _=>id|_=>C.tk.length
theorem M5 {C:Cx} {w:World} {c:Cap} {x:Nat × Nat × Nat} {sz:Nat} (h:Be C.tk c sz=true):(C.tok w c x).w=w/\(C.tok w c x).av=C.av/\(C.tok w c x).φ=C.φ/\(C.tok w c x).S=C.S/\(C.tok w c x).n=C.n/\(C.tok w c x).tk=Gj C.tk c /\
  (C.tok w c x).ψ=(fun i=>if i=Jh C c then x else C.ψ i)/\C.tk.length<=(C.tok w c x).tk.length/\Jh C c<(C.tok w c x).tk.length/\(∀ i,i<(C.tok w c x).tk.length->i=Jh C c\/i<C.tk.length) /\
  (∀ i k,nth C.tk i=some k->∃ k',nth (C.tok w c x).tk i=some k'/\k<=k'/\(k'=k->i≠Jh C c)):=by
 cases c with
 | unk=>simp [Be] at h
 | tight =>
  exact Yat
 | nilc =>
  exact Yat
 | nl=>simp [Be] at h
 | nn=>simp [Be] at h
 | tok id ep s =>
  simp only [Be,Ci,beq_iff_eq] at h;refine ⟨rfl,rfl,rfl,rfl,rfl,rfl,rfl,by simp [Cx.tok,Am],by simpa [Cx.tok,Jh,Am] using A8 h.2,fun i hi=>by simp [Cx.tok,Am] at hi; exact .inr hi,fun i k hk=>?_⟩;by_cases hi:id=i
  ·subst hi;rw [h.2] at hk; simp only [A3] at hk; subst hk;refine ⟨ep+1,?_,aA,fun h=>aA⟩;exact Ya1g
  ·refine ⟨k,?_,Cf _,fun _=>by simp [Jh]; omega⟩;simp only [Cx.tok];rw [Af hi]; exact hk
theorem Kl {C:Cx} {w:World} {c:Cap} {b lo hi sz len cap:Nat} {a:Option Addr} (h:Be C.tk c sz=true)
  (hc:cap=len\/∃ cs t,a=some ⟨b,0,none⟩/\(b,lo,hi)=(b,len*sz,cap*sz)/\w.heap[b]?=some (.cells cs t (0,0))/\cap*sz<=cs.size):CapR (C.tok w c (b,lo,hi)) (A4 C.tk c sz) a len cap:=by
 cases c with
 | unk=>simp [Be] at h
 | tight =>
  exact Ya3w
 | nilc =>
  exact Ya3w
 | nl=>simp [Be] at h
 | nn=>simp [Be] at h
 | tok id ep s =>
  simp only [Be,Ci,beq_iff_eq] at h;refine ⟨ep+1,?_,Cf _,fun _=>?_⟩
  ·exact Ya1g
  ·exact Ya0e
def Ms (C:Cx) (c:Cap) (b lo hi:Nat):Prop:=hi<=lo\/C.w.heap.size<=b\/(∃ id ep s,c=.tok id ep s/\(C.ψ id).1=b/\(C.ψ id).2.1<=lo/\hi<=(C.ψ id).2.2)
theorem Tl {C:Cx} {w:World} {c:Cap} {b lo hi sz:Nat} (h:Be C.tk c sz=true) (hn:Ms C c b lo hi) {x o:Nat} (hm:(C.tok w c (b,lo,hi)).Mut x o):C.Mut x o\/(x=b/\lo<=o/\o<hi/\C.w.heap.size<=b):=by
 obtain ⟨e1,e2,e3,e4,e5,e6,e7,e8,e9,e10,e11⟩:=M5 (w:=w) (x:=(b,lo,hi)) h;rcases hm with ⟨i,aw,hx⟩|⟨i,aw,h1,h2,h3⟩
 ·exact .inl (.inl ⟨i,by rwa [e4] at aw,by rwa [e3] at hx⟩)
 ·rw [e7] at h1 h2 h3;dsimp only at h1 h2 h3;by_cases hid:i=Jh C c
  ·rw [if_pos hid] at h1 h2 h3;simp only at h1 h2 h3;rcases hn with hn|hn|⟨id,ep,s,rfl,g1,g2,g3⟩
   ·omega
   ·exact .inr ⟨h1.symm,h2,h3,hn⟩
   ·refine .inl (.inr ⟨id,?_,by rw [g1,h1],aA,aA⟩);simp only [Be,Ci,beq_iff_eq] at h;exact A8 h.2
  ·rw [if_neg hid] at h1 h2 h3;refine .inl (.inr ⟨i,?_,h1,h2,h3⟩);rcases e10 i aw with hh|hh
   ·exact absurd hh hid
   ·exact hh
theorem Le.of_tok {C:Cx} {w:World} {c:Cap} {b lo hi sz:Nat} (h:Be C.tk c sz=true) (hn:Ms C c b lo hi) (hos:w.os=C.w.os) (wi:w.tape=C.w.tape) (oh:w.output=C.w.output) (wj:C.w.heap.size<=w.heap.size)
  (hcell:∀ x o v,C.w.cell? ⟨x,o,none⟩=some v->¬ C.Mut x o->w.cell? ⟨x,o,none⟩=some v) (wk:∀ x,x<C.w.heap.size->(∀ o,¬ C.Mut x o)->w.heap[x]?=C.w.heap[x]?)
  (ra:∀ (b:Nat) (cs:Array Value) (t:TypeId) (fz:Nat × Nat),C.w.heap[b]?=some (iT cs t fz)->∃ cs':Array Value,w.heap[b]?=some (iT cs' t fz)/\cs'.size=cs.size):Le C (C.tok w c (b,lo,hi)):=by
 obtain ⟨e1,e2,e3,e4,e5,e6,e7,e8,e9,e10,e11⟩:=M5 (w:=w) (x:=(b,lo,hi)) h;refine ⟨by rw [e1,hos],by rw [e1,wi],by rw [e1,oh],by rw [e1]; exact wj,e2,by rw [e5]; exact Cf _,fun x o hlt hm=>?_,by rw [e1]; exact hcell,by rw [e1]; exact wk,by rw [e1]; exact ra,fun i x hx _=>⟨x,by rwa [e4] at hx,rfl,by rw [e3]⟩,fun i k hk=>?_⟩
 ·rcases Tl h hn hm with h'|⟨rfl,-,-,h'⟩
  ·exact h'
  ·omega
 ·obtain ⟨k',g1,g2,g3⟩:=e11 i k hk;exact ⟨k',g1,g2,fun e=>by rw [e7]; simp only; rw [if_neg (g3 e)]⟩
theorem SR.of_tok [Globs] {C:Cx} (am:SR C) {w:World} {c:Cap} {b lo hi sz:Nat} (h:Be C.tk c sz=true) (hn:Ms C c b lo hi) (hlt:lo<hi->b<w.heap.size) (hle:Le C (C.tok w c (b,lo,hi)))
  (wl:∀ i,i<C.S.length->w.heap[C.φ i]?=C.w.heap[C.φ i]?):SR (C.tok w c (b,lo,hi)):=by
 obtain ⟨e1,e2,e3,e4,e5,e6,e7,e8,e9,e10,e11⟩:=M5 (w:=w) (x:=(b,lo,hi)) h;have old:∀ i,i<(C.tok w c (b,lo,hi)).tk.length->i≠Jh C c->i<C.tk.length:=fun i aw hne=>(e10 i aw).resolve_left hne;have key:∀ o,lo<=o->o<hi->(∀ j,j<C.tk.length->j≠Jh C c->(C.ψ j).1=b->(C.ψ j).2.1<=o->o<(C.ψ j).2.2->False)/\(∀ i,i<C.S.length->C.φ i=b->False)/\¬ C.av b o:=by
  intro o h1 h2;rcases hn with hn|hn|⟨id,ep,s,rfl,g1,g2,g3⟩
  ·omega
  ·refine ⟨fun j hj _ hb k1 k2=>?_,fun i aw hb=>?_,fun ha=>?_⟩
   ·have:=am.tlt j o hj k1 k2; omega
   ·have:=Pp am aw; omega
   ·have:=am.avlt b o ha; omega
  ·simp only [Be,Ci,beq_iff_eq] at h;have hid:=A8 h.2;refine ⟨fun j hj hne hb k1 k2=>hne (am.tok j id o hj hid (by rw [hb,g1]) k1 k2 aA aA),fun i aw hb=>am.apart i id o aw hid (by rw [hb,g1]) aA aA,am.own b o (.inr ⟨id,hid,g1,aA,aA⟩)⟩
 refine ⟨fun i x hx=>?_,fun i j aw hj hh=>?_,fun i j o aw hj hh h1 h2 h3 h4=>?_,fun i j o aw hj hh h1 h2=>?_,fun x o hm=>?_,fun x o ha=>?_,fun i o aw h1 h2=>?_,Qe am hle⟩
 ·rw [e4] at hx;obtain ⟨g1,arr,t,g2,vs',r',uo,g3⟩:=am.ent i x hx;refine ⟨by rw [e5]; exact g1,arr,t,by rw [e1,e3,wl i (A8 hx)]; exact g2,vs',r',uo,VRs.mono hle _ _ g3⟩
 ·rw [e4] at aw hj; rw [e3] at hh;exact am.ne i j aw hj hh
 ·rw [e7] at hh h1 h2 h3 h4;simp only at hh h1 h2 h3 h4;by_cases vv:i=Jh C c <;> by_cases wm:j=Jh C c
  ·rw [vv,wm]
  ·rw [if_pos vv] at hh h1 h2; rw [if_neg wm] at hh h3 h4;simp only at hh h1 h2;exact ((key o h1 h2).1 j (old j hj wm) wm hh.symm h3 h4).elim
  ·rw [if_neg vv] at hh h1 h2; rw [if_pos wm] at hh h3 h4;simp only at hh h3 h4;exact ((key o h3 h4).1 i (old i aw vv) vv hh h1 h2).elim
  ·rw [if_neg vv] at hh h1 h2; rw [if_neg wm] at hh h3 h4;exact am.tok i j o (old i aw vv) (old j hj wm) hh h1 h2 h3 h4
 ·rw [e4] at aw; rw [e3,e7] at hh; rw [e7] at h1 h2;simp only at hh h1 h2;by_cases wm:j=Jh C c
  ·rw [if_pos wm] at hh h1 h2;simp only at hh h1 h2;exact (key o h1 h2).2.1 i aw hh
  ·rw [if_neg wm] at hh h1 h2;exact am.apart i j o aw (old j hj wm) hh h1 h2
 ·rw [e2];rcases Tl h hn hm with h'|⟨rfl,h1,h2,h3⟩
  ·exact am.own x o h'
  ·exact (key o h1 h2).2.2
 ·rw [e2] at ha; rw [e1];have:=am.avlt x o ha;have:=hle.size;rw [e1] at this;omega
 ·rw [e7] at h1 h2 ⊢; rw [e1];simp only at h1 h2 ⊢;by_cases vv:i=Jh C c
  ·rw [if_pos vv] at h1 h2 ⊢;exact hlt (by simp only at h1 h2; omega)
  ·rw [if_neg vv] at h1 h2 ⊢;have h3:=am.tlt i o (old i aw vv) h1 h2;have h4:=hle.size;rw [e1] at h4;omega
theorem Yb {t:TypeId} {sz:Nat} (h:apT P t=some sz):∃ e i z,P.underlying t=some (.slice e)/\P.info? e=some i/\i.zero=some z/\i.size=sz/\0<sz/\z.cells.size=sz/\i.bytes<=1048576/\(sz=3->i.bytes<=40):=by
 unfold apT at h;split at h
 ·rename_i e he;split at h
  ·rename_i s z i hs hz hi;split at h
   ·rename_i hh;simp only [A3] at h; subst h;simp only [szOf,hi,Cy,A3] at hs;simp only [Av,hi,Oo,Cb] at hz;obtain ⟨v,hv,rfl⟩:=hz;exact ⟨e,i,v,D1 he,hi,hv,hs,aA,by simpa using hh.1,hh.2.1,fun e=>hh.2.2 aA⟩
   ·simp at h
  ·simp at h
 ·simp at h
theorem Pg {sz:Nat} : ∀ {es:List (List AV)},Dz sz es=true->(∀ e ∈ es,e.length=sz):=by
 intro es h e he;simp only [Dz,C4,beq_iff_eq] at h;exact h e he
def Src (C:Cx) (ys:List (List AV)) (vy:Value):Prop:=∃ a m cap,vy=.slice a m cap/\ys.length=m/\(m=0\/∃ b o news,a=some ⟨b,o,none⟩/\PRs C.w C.Avoid ys.flatten news/\∀ (j:Nat) u,news[j]?=some u->C.w.cell? ⟨b,o+j,none⟩=some u)
theorem Af8 {sz:Nat} : ∀ {l:List (List AV)},(∀ e ∈ l,e.length=sz)->l.flatten.length=l.length*sz
 | [],_=>by simp
 | e :: l,h=>by
  rw [Ff,Cs,h e (by simp),Af8 (l:=l) fun x hx=>h x bJ,Cm,Oc]; omega
theorem Aai [Globs] {C:Cx} (am:SR C) {t ty:TypeId} {x y av:AV} {vx vy:Value} {tk':List Nat} {ys0:List (List AV)} {c20:Cap} (hx:VR C x vx) (i7:y=.frz ys0 c20) (a0n:Src C ys0 vy) (h:apA P t x y C.tk=some (av,tk')) :
  ∃ v C',(O7 #[t,t] ty #[vx,vy]).run P C.w=.ok v C'.w/\Le C C'/\SR C'/\C'.S=C.S/\C'.tk=tk'/\C'.n=C.n/\VR C' av v:=by
 unfold apA at h;split at h
 ·rename_i es c ys c2 sz hT;simp only [AV.frz.injEq] at i7;obtain ⟨rfl,rfl⟩:=i7;split at h
  ·rename_i hh;obtain ⟨ae,du,hry,bv⟩:=hh;simp only [A3,Ch] at h;obtain ⟨rfl,rfl⟩:=h;obtain ⟨e,i,z,hu,hi,hz,hsz,hpos,pq,y8,a1t⟩:=Yb hT;simp only [VR] at hx;obtain ⟨a,len,cap,rfl,hlen,hcap,hC,hE⟩:=hx;obtain ⟨a2,m,cap2,rfl,hm,hY⟩:=a0n;simp only [Anx,Ht,Ci,beq_iff_eq,decide_eq_true_eq] at bv;have fy:∃ olds:List Value,olds.length=len*sz/\PRs C.w C.Avoid es.flatten olds/\(olds=[]\/∃ b o,a=some ⟨b,o,none⟩/\Lie C.w C.Avoid b o olds):=by
    rcases hE with rfl|⟨b,o,s',rfl,hr⟩
    ·exact ⟨[],by simp at hlen; simp [<- hlen],by simp [PRs],.inl rfl⟩
    ·by_cases hne:es=[]
     ·subst hne; exact ⟨[],by simp at hlen; simp [<- hlen],by simp [PRs],.inl rfl⟩
     ·have:=Nt hr du hne;subst this;obtain ⟨l,g1,g2,g3⟩:=Hf hr;exact ⟨l,by rw [g1,hlen],g2,.inr ⟨b,o,rfl,g3⟩⟩
   obtain ⟨olds,gv,np,zm⟩:=fy;by_cases dk:m=0
   ·subst dk;have hys:ys=[]:=Fy hm;subst hys;have hrun:=Vv (P:=P) C.w t e i ty hu hi a a2 len cap cap2 hcap;obtain ⟨b,lo,aw,hn,hc⟩:∃ b lo aw,Ms C c b lo aw/\(lo<aw->b<C.w.heap.size)/\(cap=len\/∃ cs t,a=some ⟨b,0,none⟩/\(b,lo,aw)=(b,len*sz,cap*sz)/\C.w.heap[b]?=some (.cells cs t (0,0))/\cap*sz<=cs.size):=by
     cases c with
     | unk=>simp [Be] at ae
     | tight=>exact ⟨0,0,0,.inl (Cf _),aA,.inl hC⟩
     | nilc=>exact ⟨0,0,0,.inl (Cf _),aA,.inl hC.2⟩
     | nl=>simp [Be] at ae
     | nn=>simp [Be] at ae
     | tok id ep s =>
      simp only [Be,Ci,beq_iff_eq] at ae;obtain ⟨rfl,ae⟩:=ae;obtain ⟨k,h1,h2,h3⟩:=hC;rw [ae] at h1; simp only [A3] at h1; subst h1;rcases h3 rfl with h3|⟨b,cs,t',g1,g2,g3,g4⟩
      ·exact ⟨0,0,0,.inl (Cf _),aA,.inl h3⟩
      ·exact ⟨b,len*s,cap*s,.inr (.inr ⟨id,ep,s,rfl,by rw [g2],by rw [g2]; exact Cf _,by rw [g2]; exact Cf _⟩),fun _=>(Cj.1 g3).1,.inr ⟨cs,t',g1,rfl,g3,g4⟩⟩
    have hle:Le C (C.tok C.w c (b,lo,aw)):=Le.of_tok ae hn rfl rfl rfl (Cf _) (fun _ _ _ h _=>h) (fun _ _ _=>rfl) (fun _ cs _ _ h=>⟨cs,h,rfl⟩);obtain ⟨e1,e2,e3,e4,e5,e6,-⟩:=M5 (w:=C.w) (x:=(b,lo,aw)) ae;refine ⟨.slice a len cap,C.tok C.w c (b,lo,aw),Za4v,hle,SR.of_tok am ae hn hc.1 hle (fun _ _=>rfl),e4,e6,e5,?_⟩;simp only [VR,Fp];refine ⟨a,len,cap,rfl,hlen,hcap,Kl ae hc.2,hE.imp id ?_⟩;rintro ⟨b,o,s',rfl,hr⟩;exact ⟨b,o,s',rfl,B0.stays hle.stays _ _ _ _ hr⟩
   ·obtain ⟨b2,o2,news,rfl,bj,zn⟩:=hY.resolve_left dk;have cd:news.length=m*sz:=by rw [<- L0 bj,Af8 (Pg hry),hm]
    have cg:=X1 bj;have ik:∀ (j:Nat) u,news[j]?=some u->C.w.cell? (jG ⟨b2,o2,none⟩ j)=some u:=fun j u hj=>by rw [Dv]; exact zn j u hj
    have i8:∀ e ∈ es++ys,e.length=sz:=fun x hx=>by
     rcases Cw.1 hx with hx|hx
     ·exact Pg du x hx
     ·exact Pg hry x hx
    by_cases ez:(∃ id ep s b cs t',c=.tok id ep s/\nth C.tk id=some ep/\s=sz/\a=some ⟨b,0,none⟩/\C.ψ id=(b,len*sz,cap*sz)/\C.w.heap[b]?=some (.cells cs t' (0,0))/\cap*sz<=cs.size)/\len+m<=cap
    ·obtain ⟨⟨id,ep,s,b,arr,t',rfl,hid,rfl,rfl,hψ,hb,b6⟩,il⟩:=ez;have j9:(len+m)*s<=cap*s:=E5 _ il;have up:(len+m)*s=len*s+m*s:=Ns _ _ _;have hms:0<m*s:=Nat.mul_pos aA hpos;have hrun:=K0 (P:=P) C.w t ty e i hu hi b len cap t' arr hb ⟨b2,o2,none⟩ m cap2 news dD ik cg il (by rw [hsz,cd]; omega);rw [hsz] at hrun;generalize hA:(arr.toList.take (len*s)++news++arr.toList.drop (len*s+news.length)).toArray=arr' at hrun;have k8:arr'.size=arr.size:=by rw [<- hA]; simp; omega
     have a0o:∀ o,(o<len*s\/(len+m)*s<=o)->arr'[o]?=arr[o]?:=by
      intro o ho;rw [<- hA];simp only [fY];rcases ho with ho|ho
      ·rw [Fh,Cu aC,Ii ho]; simp
      ·rw [C3 aC,S7,<- Array.getElem?_toList];congr 1;simp;omega
     have hlt:b<C.w.heap.size:=(Cj.1 hb).1;have eg:=A8 hid;have re:∀ o,len*s<=o->o<cap*s->C.Mut b o:=fun o h1 h2=>.inr ⟨id,eg,by rw [hψ],Za59,by rw [hψ]; exact h2⟩;have hn:Ms C (.tok id ep s) b ((len+m)*s) (cap*s):=.inr (.inr ⟨id,ep,s,rfl,by rw [hψ],eP,by rw [hψ]; exact Cf _⟩);have hle:Le C (C.tok (C.w.setRow b arr') (.tok id ep s) (b,(len+m)*s,cap*s)):=by
      refine Le.of_tok ae hn rfl rfl rfl (by simp) ?_ ?_ ?_
      ·intro x o v hv gb;by_cases wo:x=b
       ·subst wo;have:o<len*s\/(len+m)*s<=o:=by
         rcases Ie o (len*s) with h|h
         ·exact .inl h
         ·right;rcases Ie o (cap*s) with h'|h'
          ·exact absurd (re o h h') gb
          ·omega
        have h1:=setRow_heap C.w x arr arr' t' (0,0) hb;simp only [I7,hb] at hv;simp only [I7,h1,a0o o this];exact hv
       ·simpa [I7,setRow_other C.w b x arr' wo] using hv
      ·intro x _ gb;refine setRow_other C.w b x arr' fun h=>gb (len*s) (h ▸ re _ (Cf _) aA)
      ·intro x d t'' fz hd;by_cases wo:x=b
       ·subst wo;rw [hb] at hd;simp only [A3,jL] at hd;obtain ⟨rfl,rfl,rfl⟩:=hd;exact ⟨arr',setRow_heap _ _ _ _ _ _ hb,k8⟩
       ·exact ⟨d,by rw [setRow_other _ _ _ _ wo]; exact hd,rfl⟩
     obtain ⟨e1,e2,e3,e4,e5,e6,e7,e8,e9,e10,e11⟩:=M5 (w:=C.w.setRow b arr') (x:=(b,(len+m)*s,cap*s)) ae;have rg:=SR.of_tok am ae hn (fun _=>aH) hle (fun i hi=>setRow_other _ _ _ _ fun h=>am.apart i id (len*s) hi eg (by rw [hψ]; exact h) (by rw [hψ]; exact Cf _) eP);refine ⟨.slice (some ⟨b,0,none⟩) (len+m) cap,_,Za4v,hle,rg,e4,e6,e5,?_⟩;have vw:(C.w.setRow b arr').heap[b]?=some (.cells arr' t' (0,0)):=setRow_heap _ _ _ _ _ _ hb;simp only [VR];refine ⟨_,len+m,cap,rfl,aC,il,Kl ae (.inr ⟨arr',t',rfl,rfl,vw,aA⟩),.inr ⟨b,0,s,rfl,?_⟩⟩;have ag:=hle.stays;refine G4 (l:=olds++news) i8 Za0y (Ky fun j v hj=>?_);rw [Fo];rcases Ie j olds.length with zo|zo
     ·rw [Cu zo] at hj;rcases zm with rfl|⟨b',o',ha,hl⟩
      ·simp at zo
      ·simp only [A3,Addr.mk.injEq,and_true] at ha;obtain ⟨rfl,rfl⟩:=ha;have:=Kx (hl.stays ag) j v hj;exact Ya1f
     ·rw [C3 zo] at hj;have hjn:=(Fk.1 hj).1;have h1:len*s<=j:=aA
      have h2:j<(len+m)*s:=aA
      constructor
      ·rw [e1];simp only [I7,vw];have:arr'[j]?=some v:=by
        rw [<- hA];simp only [fY];rw [Cu aC,C3 aC];rw [<- hj]; congr 1; simp; omega
       exact Ya1f
      ·rintro (dx|⟨k,hk,hφ⟩|⟨k,hk,g1,g2,g3⟩)
       ·rw [e2] at dx;exact am.own b j (re j h1 aA) dx
       ·rw [e4] at hk; rw [e3] at hφ;exact am.apart k id j hk eg (by rw [hψ]; exact hφ) Za59 eP
       ·rw [e7] at g1 g2 g3;dsimp only at g1 g2 g3;by_cases oj:k=id
        ·rw [if_pos (show k=Jh C (.tok id ep s) from oj)] at g1 g2 g3;simp only at g2; omega
        ·rw [if_neg (show ¬ k=Jh C (.tok id ep s) from oj)] at g1 g2 g3;have y9:=(e10 k hk).resolve_left oj;exact oj (am.tok k id j y9 eg (by rw [hψ]; exact g1) g2 g3 Za59 eP)
    ·have g9:cap<len+m:=by
      rcases Ie cap (len+m) with h|h
      ·exact h
      ·exfalso;cases c with
       | unk=>simp [Be] at ae
       | tight=>have:cap=len:=hC; omega
       | nilc=>have:cap=len:=hC.2; omega
       | nl=>simp [Be] at ae
       | nn=>simp [Be] at ae
       | tok id ep s =>
        simp only [Be,Ci,beq_iff_eq] at ae;obtain ⟨rfl,ae⟩:=ae;obtain ⟨k,h1,h2,h3⟩:=hC;rw [ae] at h1; simp only [A3] at h1; subst h1;rcases h3 rfl with h3|⟨b,cs,t',g1,g2,g3,g4⟩
        ·omega
        ·exact ez ⟨⟨id,ep,s,b,cs,t',rfl,ae,rfl,g1,g2,g3,g4⟩,h⟩
     have j9:len*sz+m*sz=(len+m)*sz:=(Ns _ _ _).symm;have gc:(len+m)*i.bytes<=140737488355328:=by
      rcases bv with bv|⟨h3,bv⟩
      ·have:(len+m)*i.bytes<=1048576*1048576:=Ix aA y8;omega
      ·have:(len+m)*i.bytes<=3518437208883*40:=Ix aA (a1t h3);omega
     obtain ⟨ncap,zs,hrun,iy,hzl⟩:∃ ncap zs,(O7 #[t,t] ty #[.slice a len cap,.slice (some ⟨b2,o2,none⟩) m cap2]).run P C.w=.ok (.slice (some ⟨C.w.heap.size,0,none⟩) (len+m) ncap) (C.w.drew.alloc (.cells (olds++news++zs).toArray e))/\len+m<=ncap/\zs.length=(ncap - (len+m))*sz:=by
      cases a with
      | none =>
       have ws:len=0:=by
        rcases zm with h|⟨b,o,h,-⟩
        ·rw [h] at gv;simp only [C7] at gv;rcases Nat.mul_eq_zero.1 gv.symm with h|h
         ·exact h
         ·omega
        ·simp at h
       have wt:cap=0:=by
        cases c with
        | unk=>simp [Be] at ae
        | tight=>have:cap=len:=hC; omega
        | nilc=>have:cap=len:=hC.2; omega
        | nl=>simp [Be] at ae
        | nn=>simp [Be] at ae
        | tok id ep s =>
         simp only [Be,Ci,beq_iff_eq] at ae;obtain ⟨k,h1,h2,h3⟩:=hC;rw [ae.2] at h1; simp only [A3] at h1; subst h1;rcases h3 rfl with h3|⟨b,cs,t',g1,-⟩
         ·omega
         ·simp at g1
       subst ws wt;have ho:olds=[]:=Fy (by simpa using gv);subst ho;have:=run_append_nil (P:=P) C.w t ty e i z hu hi hz ⟨b2,o2,none⟩ m cap2 news dD ik aA aA (by simp only [Fo] at gc; omega);refine ⟨grownCap C.w m 0 e,(Ot z.cells (grownCap C.w m 0 e - m)).toList,?_,by have:=grownCap_ge C.w m 0 e; omega,by simp [size_zeroCells,pq]⟩;rw [this];simp only [Fo,Cz];congr 3;apply iV; simp
      | some ad =>
       obtain ⟨b,o,hab,hcells⟩:∃ b o,(olds=[]\/ad=⟨b,o,none⟩)/\∀ (j:Nat) v,olds[j]?=some v->C.w.cell? (ad.add j)=some v:=by
        rcases zm with rfl|⟨b,o,h,hl⟩
        ·exact ⟨0,0,.inl rfl,by simp⟩
        ·simp only [A3] at h; subst h;exact ⟨b,o,.inr rfl,fun j v hj=>by rw [Dv]; exact (Kx hl j v hj).1⟩
       have:=run_append_grow (P:=P) C.w t ty e i z hu hi hz ad len cap olds (by rw [hsz]; exact gv) hcells ⟨b2,o2,none⟩ m cap2 news dD ik g9 aA (growslice_fits g9 gc);refine ⟨grownCap C.w (len+m) cap e,(Ot z.cells (grownCap C.w (len+m) cap e - (len+m))).toList,?_,grownCap_ge C.w (len+m) cap e,by simp [size_zeroCells,pq]⟩;rw [this];congr 3;apply iV; simp
     have hbel:Below C.w.heap.size C.w (C.w.drew.alloc (.cells (olds++news++zs).toArray e)):=((Fq _ _).drew).alloc (by simp) _;have uq:(C.w.drew.alloc (.cells (olds++news++zs).toArray e)).heap[C.w.heap.size]?=some (.cells (olds++news++zs).toArray e (0,0)):=Ap C.w.drew _;have hn:Ms C c C.w.heap.size ((len+m)*sz) (ncap*sz):=.inr (.inl (Cf _));have hle:Le C (C.tok (C.w.drew.alloc (.cells (olds++news++zs).toArray e)) c (C.w.heap.size,(len+m)*sz,ncap*sz)) :=
      Le.of_tok ae hn hbel.os hbel.tape hbel.output hbel.size (fun b o v hv _=>Za3o) (fun b hb _=>hbel.block b hb) (fun b cs t fz hb=>⟨cs,Dl hbel hb,rfl⟩)
     have rg:=SR.of_tok am ae hn (fun _=>(Cj.1 uq).1) hle (fun i hi=>hbel.block _ (Pp am hi));obtain ⟨e1,e2,e3,e4,e5,e6,e7,e8,e9,e10,e11⟩:=M5 (w:=C.w.drew.alloc (.cells (olds++news++zs).toArray e)) (x:=(C.w.heap.size,(len+m)*sz,ncap*sz)) ae;refine ⟨_,_,Za4v,hle,rg,e4,e6,e5,?_⟩;have hzz:(ncap - (len+m))*sz=ncap*sz - (len+m)*sz:=Nat.sub_mul _ _ _;have hnn:(len+m)*sz<=ncap*sz:=E5 _ iy;simp only [VR];refine ⟨_,len+m,ncap,rfl,aC,iy,Kl ae (.inr ⟨_,e,rfl,rfl,uq,aC⟩),.inr ⟨C.w.heap.size,0,sz,rfl,?_⟩⟩;have ag:=hle.stays;refine G4 (l:=olds++news) i8 Za0y (Ky fun j v hj=>?_);rw [Fo];have jn:j<(len+m)*sz:=by
      exact Ya1j
     constructor
     ·rw [e1];simp only [I7,uq];have a0p:j<(olds++news).length:=(Fk.1 hj).1;have:(olds++news++zs)[j]?=some v:=by rw [Cu a0p]; exact hj
      exact Ya1f
     ·rintro (dx|ef)
      ·rw [e2] at dx;have:=am.avlt _ _ dx; omega
      ·rcases Tl ae hn ef with h|⟨-,h1,h2,-⟩
       ·exact am.fresh (Cf _) (.inr h)
       ·omega
  ·simp at h
 ·simp at h
theorem Aj8 [Globs] {C:Cx} (am:SR C) {t ty:TypeId} {x y av:AV} {vx vy:Value} {tk':List Nat} (hx:VR C x vx) (hy:VR C y vy) (h:apA P t x y C.tk=some (av,tk')) :
  ∃ v C',(O7 #[t,t] ty #[vx,vy]).run P C.w=.ok v C'.w/\Le C C'/\SR C'/\C'.S=C.S/\C'.tk=tk'/\C'.n=C.n/\VR C' av v:=by
 have h0:=h;unfold apA at h;split at h
 ·rename_i es c ys c2 sz hT;refine Aai am hx rfl ?_ h0;simp only [VR] at hy;obtain ⟨a,m,cap,rfl,hm,-,-,hY⟩:=hy;refine ⟨a,m,cap,rfl,hm,?_⟩;rcases hY with rfl|⟨b,o,s',rfl,hr⟩
  ·left; simpa using hm.symm
  ·right;obtain ⟨l,g1,g2,g3⟩:=Hf hr;exact ⟨b,o,l,rfl,g2,fun j u hj=>(Kx g3 j u hj).1⟩
 ·simp at h
theorem Zm {w:World} {e:TypeId} {z:List AV} {s m:Nat} (hz:Av P e=some z) (pq:z.length=s) (j7:0<s) :
  ∃ (zv:Value) (arr:Array Value),(zeroValue e).run P w=.ok zv w/\arr.toList.map cst1=(Cg m z).flatten/\(m*s=0->arr=#[])/\(m*s≠0->arr=(gE (m*s)).map fun x=>zv.cells[x % zv.cells.size]!):=by
 obtain ⟨zv,hz1,rfl⟩:=Kd (w:=w) hz;have hl:zv.cells.toList.length=s:=by simpa using pq
 have ph:zv.cells.size=s:=bW
 by_cases hm:m*s=0
 ·have dk:m=0:=by
   rcases Nat.mul_eq_zero.1 hm with h|h
   ·exact h
   ·omega
  exact ⟨zv,#[],hz1,by simp [dk],fun _=>rfl,fun h=>absurd hm h⟩
 ·refine ⟨zv,(gE (m*s)).map fun x=>zv.cells[x % zv.cells.size]!,hz1,?_,fun h=>absurd h hm,fun _=>rfl⟩;have:=Vj zv.cells.toList s hl j7 m;have e1:((gE (m*s)).map (zv.cells[· % zv.cells.size]!)).toList=(Cg m zv.cells.toList).flatten:=by
   rw [<- this];simp [ph,Array.toList_range];intro a _; rw [getElem!_def]; cases zv.cells[a % s]? <;> rfl
  rw [e1,List.map_flatten,iE]
theorem Am4 {C:Cx} {t:TypeId} {l c:AV} {vl vc:Value} {n sz:Nat} {cs:List AV} (hl:VR C l vl) (hc:VR C c vc) (h:mkA P t l c=some (n,sz,cs)) :
  ∃ (e:TypeId) (m:Nat) (arr:Array Value),(Instr.makeSlice t vl vc).run P C.w=.ok (.slice (some ⟨C.w.heap.size,0,none⟩) n m) (C.w.alloc (.cells arr e))/\arr.toList.map cst1=cs/\n<=m/\cs.length=m*sz/\intN l=some n:=by
 unfold mkA mkB at h;split at h
 ·rename_i l' c' sz' z b h1 h2 h3 h4 h5;split at h
  ·rename_i hh;simp only [A3,Ch] at h;obtain ⟨rfl,rfl,rfl⟩:=h;obtain ⟨g1,g2,g3,g4⟩:=hh;cases he:Ay P t with
   | none=>rw [he] at h3; simp at h3
   | some e =>
    rw [he] at h3 h4 h5;simp only [Oo] at h3 h4 h5;obtain ⟨kl,rfl⟩:=Em h1 hl;obtain ⟨kc,rfl⟩:=Em h2 hc;obtain ⟨zv,arr,r1,r2,r3,r4⟩:=Zm (w:=C.w) (m:=c') h4 g4 aA;refine ⟨e,c',arr,?_,r2,g1,?_,h1⟩
    ·simp only [Ep,Cb] at h5;obtain ⟨i,hi,rfl⟩:=h5;have w1:Ce.wrap (l':Int)=l':=Go.IntWalk.i64_in _ aA;have w2:Ce.wrap (c':Int)=c':=Go.IntWalk.i64_in _ aA;have hb:(i.bytes:Int)*(c':Int)<=2 ^ 40:=by
      have:i.bytes*c'<=1048576*1048576:=Ix g3 g2;have e:((i.bytes*c':Nat):Int)=(i.bytes:Int)*c':=by simp
      rw [<- e]; omega
     have ng:c'*i.bytes<=2 ^ 40:=by
       rw [Ip]; have:((i.bytes*c':Nat):Int)=(i.bytes:Int)*c':=by simp
       omega
     have n1:¬ ((c':Int)<0\/(i.bytes:Int)*c' > 2 ^ 48):=aA
     have n2:¬ ((l':Int)<0):=aA
     have n3:¬ ((l':Int) > (c':Int)):=aA
     have n4:¬ (c'*i.bytes > roomBytes):=by unfold roomBytes; omega
     have bv:(askRoom (c'*i.bytes)).run P C.w=.ok () C.w:=by simp [askRoom,n4]
     simp [Instr.makeSlice,Fv,Bk (D1 he),asInt,asIntOf,typeInfo,w1,w2,hi];rw [if_neg aA];simp only [bv,Fj,E2 h3];by_cases hm:c'*(sz'+1)=0
     ·have e0:∀ f:Nat->Value,(gE 0).map f=#[]:=fun f=>by simp
      rw [if_pos hm,r3 hm,hm,e0];rfl
     ·rw [if_neg hm,r4 hm,r1];rfl
    ·have:∀ (m:Nat) (z:List AV),(Cg m z).flatten.length=m*z.length:=fun m z=>by simp
     rw [this,g4]
  ·simp at h
 ·simp at h
theorem Ag3 {α:Type} : ∀ {l:List α} {i:Nat} {x:α},nth l i=some x->put l i x=l
 | _ :: _,0,_,h=>dA
 | _ :: l,i+1,_,h=>by simp only [nth] at h; simp only [put,Ag3 h]
 | [],_,_,h=>bP
theorem Ajc [Globs] {C:Cx} (am:SR C) {sz n m:Nat} {s:AV} {vs:Value} {cs:List AV} (hs:VR C s vs) (hl:lenA s=some m) (gb:n<=m) (h:srcA sz n s C.S=some cs) :
  ∃ news:List Value,(jY sz n vs).run P C.w=.ok news.toArray C.w/\VRs C cs news/\news.length=n*sz:=by
 unfold srcA at h;split at h
 ·rename_i es c;split at h
  ·rename_i hr;simp only [A3] at h; subst h;simp only [lenA,A3] at hl;simp only [VR] at hs;obtain ⟨a,len,cap,rfl,hlen,-,-,hE⟩:=hs;by_cases hn:n=0
   ·subst hn;exact Ya1q
   ·rcases hE with rfl|⟨b,o,s',rfl,hp⟩
    ·simp at hl; omega
    ·have hne:es≠[]:=by rintro rfl; simp at hl; omega
     have:=Nt hp hr hne;subst this;obtain ⟨l,g1,g2,g3⟩:=Hf (P8 n hp);have ie:l.length=n*s':=by rw [g1,Im,show min n es.length=n by omega]
     refine ⟨l,?_,L4 g2,ie⟩;exact run_firstCells_some (P:=P) C.w s' n ⟨b,o,none⟩ len cap l ie (fun j v hj=>by rw [Dv]; exact (Kx g3 j v hj).1)
  ·simp at h
 ·rename_i id ep off len' sz';split at h
  ·rename_i hsz;subst hsz;split at h
   ·rename_i ce he;obtain ⟨e,h1,h2,rfl⟩:=Ds he;simp only [lenA,A3] at hl;subst hl;simp only [VR] at hs;obtain ⟨b,a,cap,rfl,hcap,ha,gy,hb⟩:=hs;obtain rfl:=(hb e h1 h2).1;obtain ⟨hlt,arr,t',h3,h4⟩:=am.ent id e h1;obtain ⟨p,h4⟩:=entP h4;obtain ⟨h5,h6⟩:=Kg (L3 off h4) (by rw [gI]; exact Aoo _ h);by_cases hn:n=0
    ·subst hn;rw [Oj] at h;simp only [takeN,A3] at h; subst h;exact Ya1q
    ·rcases ha with ha|rfl
     ·omega
     ·have ie:((arr.toList.drop off).take (n*sz)).length=n*sz:=by simp at h6 ⊢; omega
      refine ⟨(arr.toList.drop off).take (n*sz),?_,h5,ie⟩;refine run_firstCells_some (P:=P) C.w sz n ⟨C.φ id,off,none⟩ len' cap _ ie (fun j v hj=>?_);rw [Dv];have eo:j<n*sz:=by rw [<- ie]; exact (Fk.1 hj).1
      exact Ya23
   ·simp at h
  ·simp at h
 ·simp at h
theorem Alh [Globs] {C:Cx} (am:SR C) {t t' ty:TypeId} {d s:AV} {vd vs:Value} {n:Nat} {S':List Ent} (hd:VR C d vd) (hs:VR C s vs) (h:cpA P t d s C.S=some (n,S')) :
  ∃ C',(Builtin.copy_ #[t,t'] ty #[vd,vs]).run P C.w=.ok (.int .i64 (n:Int)) C'.w/\Le C C'/\SR C'/\C'.S=S'/\C'.tk=C.tk/\C'.n=C.n:=by
 unfold cpA at h;split at h
 ·rename_i id ep off len sz m hm;split at h
  ·rename_i hsz;split at h
   ·rename_i news cs0 a0n a2j;split at h
    ·rename_i a1u;split at h
     ·rename_i cs' ho;simp only [A3,Ch] at h;obtain ⟨rfl,rfl⟩:=h;obtain ⟨e,h1,h2,rfl⟩:=Ds a2j;obtain ⟨a2,cap2,rfl⟩:=Xa hs hm;obtain ⟨us,r1,r2,r3⟩:=Ajc (P:=P) am hs hm (Nat.min_le_left _ _) a0n;simp only [VR] at hd;obtain ⟨b,a,cap,rfl,hcap,ha,gy,hb⟩:=hd;obtain rfl:=(hb e h1 h2).1;obtain ⟨hlt,arr,tt,h3,h4⟩:=am.ent id e h1;obtain ⟨p,h4⟩:=entP h4;obtain ⟨h5,h6⟩:=J7 (Arf p ho);have hl2:=A5 r2;have oi:=A5 h4;simp only [Iv] at oi;cases he:Ay P t with
      | none=>rw [he] at hsz; simp at hsz
      | some el =>
       rw [he] at hsz;simp only [Oo] at hsz;have a1v:Nat.min m len=min m len:=rfl;by_cases hn:min m len=0
       ·rw [hn] at r3;have hus:us=[]:=Fy aA;subst hus;have i6:news=[]:=Fy (by simpa using hl2);subst i6;have:cs'=e.cells:=by
         have:cs'++p=e.cells++p:=by rw [h5]; simp [puts]
         exact List.append_cancel_right this
        subst this;have a2k:put C.S id ⟨ep,e.cells⟩=C.S:=by subst h2; exact Ag3 h1
        refine ⟨C,?_,Le.refl C,am,a2k.symm,rfl,rfl⟩;rw [hn] at r1 ⊢;cases a <;> simp [Builtin.copy_,Bk (D1 he),kH,a1v,hn,E2 hsz,r1,goInt,storeCells]
       ·have ha':a=some ⟨C.φ id,off,none⟩:=ha.resolve_left (by
         intro h0;rw [h0] at hn;exact hn (Nat.min_eq_right (Cl _)))
        subst ha';have b6:off+0+us.length<=arr.size:=aA
        have hrun:=run_storeCells_at P (C.φ id) off tt us 0 arr C.w h3 b6 (fun v hv'=>Pe r2 a1u v hv');have wh:=Aew (us:=us) (l:=arr.toList) (o:=off) aC;have jr:VRs C (cs'++p) (arr.toList.take off++us++arr.toList.drop (off+us.length)):=by
         rw [<- wh,h5]; exact L5 h4 r2
        refine ⟨{ C with w:=C.w.setRow (C.φ id) (arr.toList.take off++us++arr.toList.drop (off+us.length)).toArray,S:=put C.S id ⟨ep,cs'⟩ },?_,Le.of_store am h1 h2.symm h3 ?_,SR.of_store am h1 h2.symm h3 ?_ (As1 (by simpa using jr)),rfl,rfl,rfl⟩
        ·simp only [Io] at hrun;simp [Builtin.copy_,Bk (D1 he),kH,a1v,E2 hsz,r1,goInt,hrun]
        ·exact Ya14
        ·exact Ya14
     ·simp at h
    ·simp at h
   ·simp at h
  ·simp at h
 ·simp at h
end
end
end Go.Proofs.YthelkgdmgihhiaaGreat
