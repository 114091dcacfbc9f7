/- Part 5. -/
import Derived.Test.YthelkgdmgihhiaaGreatZM4
import Derived.Laws.AppendOwn
import Derived.Laws.OwnMore
import Derived.Laws.CopyRow
import Derived.IntWalk
open Array renaming getElem?_eq_some_iff->Ci,length_toList->Ii,range->So,ext'->gG
open Bool renaming and_eq_true->Cf,false_eq_true->C4,or_eq_true->Fz
open Go renaming sizeOf->iX
open Go.Addr renaming add->gV
open Go.Builtin renaming zeroCells->Nx,append_->Og,firstCells->iM,lenOf->iV
open Go.Instr renaming sureAddr->Oq,loadAt->fV
open Go.IntKind renaming i64->Ce
open Go.Obj renaming cells->gD
open Go.Obj.cells renaming injEq->iA
open Go.Result renaming andThen_ok->Ea
open Go.RowKit.Below renaming refl->Fb,cell->iY
open Go.Sem renaming run_bind->Fe
open Go.World renaming cell?->It
open List renaming replicate->Cd,length_cons->Ck,length_append->Cn,cons_append->Co,getElem?_append_left->Cp,mem_append->Cr,nil_append->Ct,mem_cons->Cy,all_eq_true->Cz,length_nil->C3,append_assoc->C7,getElem?_append_right->C8,eq_nil_of_length_eq_zero->Fg,flatten_cons->Fm,getElem?_eq_some_iff->Fq,append_nil->Fu,getElem?_eq_getElem->Ig,getElem?_take_of_lt->Iq,getElem?_take->Iw,length_take->Iy,all_cons->Oc,getElem?_drop->O9,getElem?_toArray->Sj,drop_append->Sv,set_append_right->fX,flatten_append->iE,map_replicate->iN
open Nat renaming le_refl->Cb,zero_le->Cs,lt_of_lt_of_le->Fi,zero_add->Fo,mul_le_mul_right->F0,lt_or_ge->Ic,lt_succ_self->Ip,add_zero->I1,mul_comm->I2,succ_mul->Mi,zero_mul->Oi,mul_le_mul->Ot,add_mul->O8,le_succ->gX
open Option renaming map_eq_some_iff->B6,map_some->Cu,bind_some->Lg
open Option.some renaming injEq->A0
open Prod.mk renaming injEq->Cc
namespace Go.Proofs.YthelkgdmgihhiaaGreat
section
open Go.RowKit
section
variable {P:Program}
theorem Mz {C:Cx} {t:TypeId} {sz:Nat} {bb:Bool} {b o:Nat} {cs:List AV} {vs:List Value} {av:AV} (hs:szOf P t=some sz) (ha:aggT P t=some bb) (hx:VRs C cs vs) (hl:∀ (j:Nat) (v:Value),vs[j]?=some v->C.w.cell? ⟨b,o+j,none⟩=some v)
  (h:partA bb sz cs=some av):Has P C (loadVar t ⟨b,o,none⟩) av:=by
 unfold partA at h;cases bb with
 | true =>
  simp only [if_true,B6] at h;obtain ⟨ds,h1,rfl⟩:=h;obtain ⟨h2,h3⟩:=Jm hx h1;have nh:(vs.take sz).length=sz:=cQ
  have:=run_loadCells_list (P:=P) C.w ⟨b,o,none⟩ (vs.take sz) (fun j v hj=>by
   rw [Dl];refine hl j v ?_;rw [Iw] at hj;split at hj
   ·exact hj
   ·simp at hj)
  rw [nh] at this;refine ⟨.agg (vs.take sz).toArray,by simp [loadVar,R0 ha,Eg hs,this],?_⟩;simp only [VR];exact ⟨_,rfl,h2⟩
 | false =>
  simp only [C4,if_false] at h;obtain ⟨v,h1,h2⟩:=Tq hx h;refine ⟨v,?_,h2⟩;have:=hl 0 v h1;simp only [I1] at this;simp [loadVar,R0 ha,this]
theorem Aaz {C:Cx} : ∀ {a b:List AV} {l:List Value},VRs C (a++b) l->∃ l1 l2,l=l1++l2/\VRs C a l1/\VRs C b l2
 | [],b,l,h=>⟨[],l,rfl,bT,h⟩
 | x :: a,b,v :: l,h=>by
  simp only [Co,VRs] at h;obtain ⟨l1,l2,rfl,h1,h2⟩:=Aaz (a:=a) h.2;exact ⟨v :: l1,l2,rfl,by simp only [VRs]; exact ⟨h.1,h1⟩,h2⟩
 | _ :: _,_,[],h=>by simp only [Co,VRs] at h
theorem entP {C:Cx} {cells:List AV} {l:List Value} (h:∃ vs r,l=vs++r/\VRs C cells vs):∃ p,VRs C (cells++p) l:=by
 obtain ⟨vs,r,rfl,h⟩:=h;exact ⟨_,Gn h (Uu r)⟩
theorem Amf {C:Cx} {cells p:List AV} {l:List Value} (h:VRs C (cells++p) l):∃ vs r,l=vs++r/\VRs C cells vs:=by
 obtain ⟨l1,l2,e,h1,-⟩:=Aaz h;exact ⟨l1,l2,e,h1⟩
theorem Ak2 (p:List AV):∀ {cs:List AV} {o:Nat} {vs cs':List AV},over cs o vs=some cs'->over (cs++p) o vs=some (cs'++p)
 | cs,0,[],cs',h=>by
  have:cs=cs':=by cases cs <;> simpa [over] using h
  subst this;cases (cs++p) <;> rfl
 | c :: cs,k+1,vs,cs',h=>by
  exact Ya0u
 | _ :: cs,0,v :: vs,cs',h=>by
  exact Ya0u
 | [],0,_ :: _,_,h=>eP
 | [],_+1,_,_,h=>eP
theorem Aix (p:List AV):∀ {n:Nat} {cs x:List AV},takeN n cs=some x->takeN n (cs++p)=some x
 | 0,_,_,h=>by simpa [takeN] using h
 | n+1,[],_,h=>by simp [takeN] at h
 | n+1,c :: cs,x,h=>by
  simp only [takeN,B6] at h;obtain ⟨y,h,rfl⟩:=h;simp only [Co,takeN,Aix p h,Cu]
theorem Aqh (p:List AV) {b:Bool} {n:Nat} {cs:List AV} {x:AV} (h:partA b n cs=some x):partA b n (cs++p)=some x:=by
 unfold partA at h ⊢;cases b with
 | true =>
  simp only [if_true,B6] at h ⊢;obtain ⟨y,h,rfl⟩:=h;exact ⟨y,Aix p h,rfl⟩
 | false =>
  simp only [C4,if_false] at h ⊢;cases cs with
  | nil=>simp [nth] at h
  | cons c cs=>exact h
theorem Dq {S:List Ent} {id ep:Nat} {cs:List AV} (h:entAt S id ep=some cs):∃ e,nth S id=some e/\e.ep=ep/\e.cells=cs:=by
 unfold entAt at h;split at h
 ·rename_i e he;split at h
  ·rename_i mi; simp only [A0] at h; exact ⟨e,he,mi,h⟩
  ·simp at h
 ·simp at h
theorem X1 [Globs] {C:Cx} (am:SR C) {t:TypeId} {a av:AV} {va:Value} (hx:VR C a va) (h:ldA P t a C.S=some av):Has P C (fV t va) av:=by
 unfold ldA at h;split at h
 ·rename_i sz bb hs ha;split at h
  ·rename_i cs;simp only [VR] at hx;obtain ⟨b,o,vs,rfl,hl,hp⟩:=hx;obtain ⟨v,h1,h2⟩:=Mz (b:=b) (o:=o) hs ha (Ja hp) (fun j v hj=>(J1 hl j v hj).1) h;exact ⟨v,by simpa [fV,Oq] using h1,h2⟩
  ·rename_i id ep off;split at h
   ·rename_i cs he;obtain ⟨e,h1,h2,rfl⟩:=Dq he;simp only [VR] at hx;obtain ⟨b,rfl,hn,hb⟩:=hx;obtain rfl:=hb e h1 h2;obtain ⟨-,arr,t',h3,h4⟩:=am.ent id e h1;obtain ⟨p,h4⟩:=entP h4;obtain ⟨v,g1,g2⟩:=Mz (b:=C.φ id) (o:=off) hs ha (K6 off h4) (fun j v hj=>by
     rw [O9] at hj;simp [It,h3]; simpa using hj) (by rw [Sv]; exact Aqh _ h)
    exact ⟨v,by simpa [fV,Oq] using g1,g2⟩
   ·simp at h
  ·simp at h
 ·simp at h
theorem Dy {α:Type} : ∀ {l:List α} {i:Nat} {v x:α},nth (put l i v) i=some x->x=v
 | _ :: _,0,_,_,h=>by simpa [put,nth] using h.symm
 | _ :: l,i+1,v,x,h=>Dy (l:=l) (i:=i) (by simpa [put,nth] using h)
 | [],_,_,_,h=>by simp [put,nth] at h
theorem Ad {α:Type} : ∀ {l:List α} {i j:Nat} {v:α},i≠j->nth (put l i v) j=nth l j
 | _ :: _,0,0,_,h=>absurd rfl h
 | _ :: _,0,j+1,_,_=>rfl
 | _ :: _,i+1,0,_,_=>rfl
 | _ :: l,i+1,j+1,v,h=>Ad (l:=l) (i:=i) (j:=j) aA
 | [],_,_,_,_=>rfl
theorem Ah {α:Type} {l:List α} {i:Nat} (h:i<l.length):∃ x,nth l i=some x:=⟨l[i],by rw [Ae]; exact Ig h⟩
theorem Aai:∀ {us l:List Value} {o:Nat},o+us.length<=l.length->sets l o us=l.take o++us++l.drop (o+us.length)
 | [],l,o,_=>by simp [sets]
 | u :: us,l,o,h=>by
  simp only [sets];simp only [Ck] at h;rw [Aai aB];have h1:(l.set o u).take (o+1)=l.take o++[u]:=by
   rw [List.take_set,List.take_add_one];have:l[o]?=some (l[o]' aA):=Ig _;rw [this];simp only [Option.toList_some];rw [fX _ _ aB];simp [show min o l.length=o from by omega]
  have h2:(l.set o u).drop (o+1+us.length)=l.drop (o+(us.length+1)):=by
   rw [List.drop_set_of_lt aA];congr 1;omega
  rw [h1,h2];simp
theorem Mv {C:Cx} : ∀ {cs:List AV} {vs:List Value},VRs C cs vs->cs.all leafOk=true->∀ v ∈ vs,v.oneCell'=true
 | [],[],_,_=>by simp
 | c :: cs,v :: vs,h,hl=>by
  simp only [VRs] at h;simp only [Oc,Cf] at hl;intro u hu;rcases Cy.1 hu with rfl|hu
  ·cases c with
   | prim x=>have:=h.1; simp only [VR] at this; subst this; exact hl.1
   | bot=>simp [leafOk] at hl
   | agg _=>simp [leafOk] at hl
   | tup _=>simp [leafOk] at hl
   | frz _ _=>have:=h.1; simp only [VR] at this; obtain ⟨_,_,_,rfl,-⟩:=this; rfl
   | fptr _=>have:=h.1; simp only [VR] at this; obtain ⟨_,_,_,rfl,-⟩:=this; rfl
   | ref _ _ _=>have:=h.1; simp only [VR] at this; obtain ⟨_,rfl,-⟩:=this; rfl
   | sref _ _ _ _ _=>have:=h.1; simp only [VR] at this; obtain ⟨_,_,_,rfl,-⟩:=this; rfl
   | fn _ _=>have:=h.1; simp only [VR] at this; obtain ⟨_,rfl,-⟩:=this; rfl
   | bfn _ _=>have:=h.1; simp only [VR] at this; obtain ⟨_,rfl,-⟩:=this; rfl
   | ifc _ _=>have:=h.1; simp only [VR] at this; obtain ⟨_,rfl,-⟩:=this; rfl
   | mfn _ _ _=>have:=h.1; simp only [VR] at this; obtain ⟨_,rfl,-⟩:=this; rfl
   | lit _ _=>have:=h.1; simp only [VR] at this; obtain ⟨_,_,rfl,-⟩:=this; rfl
  ·exact Mv h.2 hl.2 u hu
 | [],_ :: _,h,_=>aN
 | _ :: _,[],h,_=>aN
theorem Le.of_store [Globs] {C:Cx} (am:SR C) {id:Nat} {e e':Ent} {cs cs':Array Value} {t:TypeId} (he:nth C.S id=some e) (mi:e'.ep=e.ep) (hb:C.w.heap[C.φ id]?=some (.cells cs t (0,0))) (hsz:cs'.size=cs.size) :
  Le C { C with w:=C.w.setRow (C.φ id) cs',S:=put C.S id e' }:=by
 have hm:∀ o,C.Mut (C.φ id) o:=fun o=>.inl ⟨id,Bb he,rfl⟩;refine ⟨rfl,rfl,rfl,by simp,rfl,Cb _,?_,?_,?_,?_,?_,fun _ k hk=>⟨k,hk,Cb _,fun _=>rfl⟩⟩
 ·rintro b o - (⟨i,hi,h⟩|h)
  ·exact .inl ⟨i,eG,h⟩
  ·exact .inr h
 ·intro b o v hv hn;have hne:b≠C.φ id:=fun h=>hn (h ▸ hm o);have:=setRow_other C.w (C.φ id) b cs' hne;simpa [It,this] using hv
 ·intro b _ hn;exact setRow_other C.w (C.φ id) b cs' fun h=>hn 0 (h ▸ hm 0)
 ·intro b d t' fz hd;by_cases h:b=C.φ id
  ·subst h;rw [hb] at hd;simp only [A0,iA] at hd;obtain ⟨rfl,rfl,rfl⟩:=hd;exact ⟨cs',setRow_heap _ _ _ _ _ _ hb,hsz⟩
  ·exact ⟨d,Za3f,rfl⟩
 ·intro i x hx _;by_cases h:id=i
  ·subst h;have:=Dy hx;subst this;exact ⟨e,he,mi.symm,rfl⟩
  ·rw [Ad h] at hx;exact ⟨x,hx,rfl,rfl⟩
theorem SR.of_store [Globs] {C:Cx} (am:SR C) {id:Nat} {e e':Ent} {cs cs':Array Value} {t:TypeId} (he:nth C.S id=some e) (mi:e'.ep=e.ep) (hb:C.w.heap[C.φ id]?=some (.cells cs t (0,0))) (hsz:cs'.size=cs.size) (hv:∃ vs r,cs'.toList=vs++r/\VRs C e'.cells vs) :
  SR { C with w:=C.w.setRow (C.φ id) cs',S:=put C.S id e' }:=by
 have hle:=Le.of_store am he mi hb hsz;refine ⟨fun i x hx=>?_,fun i j hi hj h=>am.ne i j eG (by simpa [Am] using hj) h,am.tok,fun i j o hi hj=>am.apart i j o eG hj,?_,fun b o ha=>by have:=am.avlt b o ha; simpa using this,fun i o hi h1 h2=>by have:=am.tlt i o hi h1 h2; simpa using this,Np am hle⟩
 ·by_cases h:id=i
  ·subst h;have:=Dy hx;subst this;obtain ⟨vs,r,zf,zg⟩:=hv;exact ⟨by rw [mi]; exact (am.ent id e he).1,cs',t,setRow_heap _ _ _ _ _ _ hb,vs,r,zf,VRs.mono hle _ _ zg⟩
  ·have hx':nth C.S i=some x:=by rw [<- Ad h]; exact hx
   obtain ⟨h1,arr,t',h2,vs',r',sm,h3⟩:=am.ent i x hx';refine ⟨h1,arr,t',?_,vs',r',sm,VRs.mono hle _ _ h3⟩;have hne:C.φ i≠C.φ id:=fun hh=>h (am.ne i id (Bb hx') (Bb he) hh).symm;simpa [setRow_other _ _ _ _ hne] using h2
 ·rintro b o (⟨i,hi,h⟩|h)
  ·exact am.own b o (.inl ⟨i,eG,h⟩)
  ·exact am.own b o (.inr h)
theorem Aiq [Globs] {C:Cx} (am:SR C) {t:TypeId} {a x:AV} {va vx:Value} {S':List Ent} (ha:VR C a va) (hx:VR C x vx) (h:stA P t a x C.S=some S') :
  ∃ C',(Instr.storeAt t va vx).run P C.w=.ok () C'.w/\Le C C'/\SR C'/\C'.S=S'/\C'.tk=C.tk/\C'.n=C.n:=by
 unfold stA at h;split at h
 ·rename_i id ep off sz vs hs hc;split at h
  ·rename_i hh;split at h
   ·rename_i cs he;split at h
    ·rename_i cs' ho;simp only [A0] at h; subst h;obtain ⟨e,h1,h2,rfl⟩:=Dq he;simp only [VR] at ha;obtain ⟨b,rfl,hn,hb⟩:=ha;obtain rfl:=hb e h1 h2;obtain ⟨hlt,arr,t',h3,h4⟩:=am.ent id e h1;obtain ⟨p,h4⟩:=entP h4;obtain ⟨h5,h6⟩:=Jd (Ak2 p ho);have hv:=Gf hc hx;have hl1:=A1 hv;have pf:=A1 h4;simp only [Ii] at hl1 pf;have eo:off+0+vx.cells.toList.length<=arr.size:=aB
     have hrun:=run_storeCells_at P (C.φ id) off t' vx.cells.toList 0 arr C.w h3 eo (fun v hv'=>Mv hv hh.2 v hv');have uc:=Aai (us:=vx.cells.toList) (l:=arr.toList) (o:=off) aB;have iv:VRs C (cs'++p) (arr.toList.take off++vx.cells.toList++arr.toList.drop (off+vx.cells.toList.length)):=by
      rw [<- uc,h5]; exact K7 h4 hv
     refine ⟨{ C with w:=C.w.setRow (C.φ id) (arr.toList.take off++vx.cells.toList++arr.toList.drop (off+vx.cells.toList.length)).toArray,S:=put C.S id ⟨ep,cs'⟩ },?_,Le.of_store am h1 h2.symm h3 ?_,SR.of_store am h1 h2.symm h3 ?_ (Amf (by simpa using iv)),rfl,rfl,rfl⟩
     ·have e1:vx.cells.size=sz:=aA
      simp only [I1] at hrun;simp [Instr.storeAt,Oq,storeVar,Eg hs,e1,hrun]
     ·exact Ya0o
     ·exact Ya0o
    ·simp at h
   ·simp at h
  ·simp at h
 ·simp at h
def Cx.more (C:Cx) (arr:Array Value) (t:TypeId) (cs:List AV):Cx :=
 { C with w:=C.w.alloc (.cells arr t),φ:=fun i=>if i=C.S.length then C.w.heap.size else C.φ i,S:=C.S++[⟨C.n,cs⟩],n:=C.n+1 }
theorem Jv {α:Type} : ∀ {l:List α} {v x:α} {i:Nat},nth (l++[v]) i=some x->(i=l.length/\x=v)\/(i<l.length/\nth l i=some x)
 | [],v,x,0,h=>.inl ⟨rfl,by simpa [nth] using h.symm⟩
 | [],v,x,i+1,h=>bU
 | y :: l,v,x,0,h=>.inr ⟨by simp,h⟩
 | y :: l,v,x,i+1,h=>by
  rcases Jv (l:=l) (i:=i) h with ⟨h1,h2⟩|⟨h1,h2⟩
  ·exact .inl ⟨by simp [h1],h2⟩
  ·exact .inr ⟨aU,h2⟩
theorem M5 [Globs] {C:Cx} (am:SR C) {i:Nat} (h:i<C.S.length):C.φ i<C.w.heap.size:=by
 obtain ⟨e,he⟩:=Ah h;obtain ⟨-,cs,t,h2,-⟩:=am.ent i e he;exact (Ci.1 h2).1
theorem Le.more [Globs] {C:Cx} (am:SR C) (arr:Array Value) (t:TypeId) (cs:List AV):Le C (C.more arr t cs):=by
 have hb:Below C.w.heap.size C.w (C.w.alloc (.cells arr t)):=(Fb _ _).alloc (Cb _) _;refine ⟨rfl,rfl,rfl,hb.size,rfl,gX _,?_,fun b o v hv _=>by rw [show (C.more arr t cs).w=C.w.alloc (.cells arr t) from rfl,iY hb (E2 hv)]; exact hv,fun b hlt _=>hb.block b hlt,fun b d t' fz hd=>⟨d,Dc hb hd,rfl⟩,?_,fun _ k hk=>⟨k,hk,Cb _,fun _=>rfl⟩⟩
 ·rintro b o hlt (⟨i,hi,h⟩|h)
  ·simp only [Cx.more] at hi h;split at h
   ·omega
   ·exact .inl ⟨i,cB,h⟩
  ·exact .inr h
 ·intro i x hx hn;rcases Jv hx with ⟨h1,h2⟩|⟨h1,h2⟩
  ·subst h2; simp at hn
  ·refine ⟨x,h2,rfl,?_⟩;simp only [Cx.more];rw [if_neg aA]
theorem SR.moreP [Globs] {C:Cx} (am:SR C) {arr:Array Value} {t:TypeId} {cs:List AV} (hv:∃ vs r,arr.toList=vs++r/\VRs C cs vs):SR (C.more arr t cs):=by
 have hle:=Le.more am arr t cs;have hb:Below C.w.heap.size C.w (C.w.alloc (.cells arr t)):=(Fb _ _).alloc (Cb _) _;refine ⟨fun i x hx=>?_,fun i j hi hj h=>?_,am.tok,fun i j o hi hj h h1 h2=>?_,?_,fun b o ha=>Fi (am.avlt b o ha) hb.size,fun i o hi h1 h2=>Fi (am.tlt i o hi h1 h2) hb.size,Np am hle⟩
 ·rcases Jv hx with ⟨h1,rfl⟩|⟨h1,h2⟩
  ·obtain ⟨vs,r,zf,zg⟩:=hv;refine ⟨Ip _,arr,t,?_,vs,r,zf,VRs.mono hle _ _ zg⟩;simp only [Cx.more,h1,if_true];exact An _ _
  ·obtain ⟨g1,d,t',g2,vs',r',sm,g3⟩:=am.ent i x h2;refine ⟨Nat.lt_succ_of_lt g1,d,t',?_,vs',r',sm,VRs.mono hle _ _ g3⟩;simp only [Cx.more];rw [if_neg aA];exact Dc hb g2
 ·simp only [Cx.more,Cn,Ck,C3] at hi hj h;by_cases ar:i=C.S.length <;> by_cases dy:j=C.S.length
  ·omega
  ·rw [if_pos ar,if_neg dy] at h;have:=M5 am (i:=j) aA; omega
  ·rw [if_neg ar,if_pos dy] at h;have:=M5 am (i:=i) aA; omega
  ·rw [if_neg ar,if_neg dy] at h;exact am.ne i j aA aA h
 ·simp only [Cx.more,Cn,Ck,C3] at hi h hj h1 h2;by_cases ar:i=C.S.length
  ·rw [if_pos ar] at h;have:=am.tlt j o hj h1 h2; omega
  ·rw [if_neg ar] at h;exact am.apart i j o aA hj h h1 h2
 ·rintro b o (⟨i,hi,h⟩|h)
  ·simp only [Cx.more,Cn,Ck,C3] at hi h;by_cases ar:i=C.S.length
   ·rw [if_pos ar] at h;intro ha;have:=am.avlt b o ha; omega
   ·rw [if_neg ar] at h;exact am.own b o (.inl ⟨i,aA,h⟩)
  ·exact am.own b o (.inr h)
theorem SR.more [Globs] {C:Cx} (am:SR C) {arr:Array Value} {t:TypeId} {cs:List AV} (hv:VRs C cs arr.toList):SR (C.more arr t cs):=SR.moreP am ⟨_,[],by simp,hv⟩
theorem Aly {C:Cx} {arr:Array Value} {t:TypeId} {cs:List AV} : VR (C.more arr t cs) (.ref C.S.length C.n 0) (.pointer (some ⟨C.w.heap.size,0,none⟩)):=by
 simp only [VR];refine ⟨_,rfl,Ip _,fun e he mi=>?_⟩;simp [Cx.more]
theorem R1 (w:World) (t e:TypeId) (i:TypeInfo) (ty:TypeId) (ht:P.underlying t=some (.slice e)) (hi:P.info? e=some i) (base a:Option Addr) (n cap c:Nat) (h:n<=cap) :
  (Og #[t,t] ty #[.slice base n cap,.slice a 0 c]).run P w=.ok (.slice base n cap) w:=by
 cases base <;> cases a <;> simp [Og,Bf ht,iX,typeInfo,hi,iV,iM,loadCells,loadCellsFrom,h,storeCells]
theorem J5 (w:World) (t ty e:TypeId) (i:TypeInfo) (ht:P.underlying t=some (.slice e)) (hi:P.info? e=some i)
  (g sLen sCap:Nat) (t':TypeId) (cur:Array Value) (hg:w.heap[g]?=some (.cells cur t' (0,0)))
  (a:Addr) (m c:Nat) (news:List Value) (hl:news.length=m*i.size) (gp:∀ (j:Nat) u,news[j]?=some u->w.cell? (a.add j)=some u) (h1:∀ u ∈ news,u.oneCell'=true)
  (bl:sLen+m<=sCap) (eo:sLen*i.size+news.length<=cur.size) :
  (Og #[t,t] ty #[.slice (some ⟨g,0,none⟩) sLen sCap,.slice (some a) m c]).run P w =
   .ok (.slice (some ⟨g,0,none⟩) (sLen+m) sCap) (w.setRow g (cur.toList.take (sLen*i.size)++news++cur.toList.drop (sLen*i.size+news.length)).toArray):=by
 have hf:=run_firstCells_some (P:=P) w i.size m a m c news hl gp;have ah:=run_storeCells_at P g (sLen*i.size) t' news 0 cur w hg (by simpa using eo) h1;simp only [I1] at ah;simp [Og,Bf ht,iX,typeInfo,hi,iV,bl,hf,Dl,ah]
theorem Aov {w:World} {A:Nat->Nat->Prop} {c:AV} {v:Value} (h:PR w A c v):v.oneCell'=true:=by
 unfold PR at h;split at h
 ·rw [h.1]; exact h.2
 ·obtain ⟨_,_,_,rfl,-⟩:=h; rfl
 ·obtain ⟨_,_,_,rfl,-⟩:=h; rfl
 ·rw [h]; rfl
 ·exact h.elim
theorem Up {w:World} {A:Nat->Nat->Prop} : ∀ {cs:List AV} {vs:List Value},PRs w A cs vs->∀ v ∈ vs,v.oneCell'=true
 | [],[],_=>by simp
 | c :: cs,v :: vs,h=>by
  simp only [PRs] at h;intro u hu;rcases Cy.1 hu with rfl|hu
  ·exact Aov h.1
  ·exact Up h.2 u hu
 | [],_ :: _,h=>bL
 | _ :: _,[],h=>bL
def Cx.tok (C:Cx) (w:World) (c:Cap) (x:Nat × Nat × Nat):Cx :=
 match c with
 | .tok id ep _=>{ C with w:=w,tk:=put C.tk id (ep+1),ψ:=fun i=>if i=id then x else C.ψ i }
 | _=>{ C with w:=w,tk:=C.tk++[0],ψ:=fun i=>if i=C.tk.length then x else C.ψ i }
def Hq (C:Cx) (c:Cap):Nat:=match c with|.tok id _ _=>id|_=>C.tk.length
theorem Lw {C:Cx} {w:World} {c:Cap} {x:Nat × Nat × Nat} {sz:Nat} (h:Ba C.tk c sz=true):(C.tok w c x).w=w/\(C.tok w c x).av=C.av/\(C.tok w c x).φ=C.φ/\(C.tok w c x).S=C.S/\(C.tok w c x).n=C.n/\(C.tok w c x).tk=Eo C.tk c /\
  (C.tok w c x).ψ=(fun i=>if i=Hq C c then x else C.ψ i)/\C.tk.length<=(C.tok w c x).tk.length/\Hq C c<(C.tok w c x).tk.length/\(∀ i,i<(C.tok w c x).tk.length->i=Hq C c\/i<C.tk.length) /\
  (∀ i k,nth C.tk i=some k->∃ k',nth (C.tok w c x).tk i=some k'/\k<=k'/\(k'=k->i≠Hq C c)):=by
 cases c with
 | unk=>simp [Ba] at h
 | tight =>
  exact Yap
 | nilc =>
  exact Yap
 | nl=>simp [Ba] at h
 | nn=>simp [Ba] at h
 | tok id ep s =>
  simp only [Ba,Cf,beq_iff_eq] at h;refine ⟨rfl,rfl,rfl,rfl,rfl,rfl,rfl,by simp [Cx.tok,Am],by simpa [Cx.tok,Hq,Am] using Bb h.2,fun i hi=>by simp [Cx.tok,Am] at hi; exact .inr hi,fun i k hk=>?_⟩;by_cases hi:id=i
  ·subst hi;rw [h.2] at hk; simp only [A0] at hk; subst hk;refine ⟨ep+1,?_,aA,fun h=>aA⟩;exact Ya0x
  ·refine ⟨k,?_,Cb _,fun _=>by simp [Hq]; omega⟩;simp only [Cx.tok];rw [Ad hi]; exact hk
theorem Jp {C:Cx} {w:World} {c:Cap} {b lo hi sz len cap:Nat} {a:Option Addr} (h:Ba C.tk c sz=true)
  (hc:cap=len\/∃ cs t,a=some ⟨b,0,none⟩/\(b,lo,hi)=(b,len*sz,cap*sz)/\w.heap[b]?=some (.cells cs t (0,0))/\cap*sz<=cs.size):CapR (C.tok w c (b,lo,hi)) (A4 C.tk c sz) a len cap:=by
 cases c with
 | unk=>simp [Ba] at h
 | tight =>
  exact Ya34
 | nilc =>
  exact Ya34
 | nl=>simp [Ba] at h
 | nn=>simp [Ba] at h
 | tok id ep s =>
  simp only [Ba,Cf,beq_iff_eq] at h;refine ⟨ep+1,?_,Cb _,fun _=>?_⟩
  ·exact Ya0x
  ·exact Ya06
def Lp (C:Cx) (c:Cap) (b lo hi:Nat):Prop:=hi<=lo\/C.w.heap.size<=b\/(∃ id ep s,c=.tok id ep s/\(C.ψ id).1=b/\(C.ψ id).2.1<=lo/\hi<=(C.ψ id).2.2)
theorem Qe {C:Cx} {w:World} {c:Cap} {b lo hi sz:Nat} (h:Ba C.tk c sz=true) (hn:Lp C c b lo hi) {x o:Nat} (hm:(C.tok w c (b,lo,hi)).Mut x o):C.Mut x o\/(x=b/\lo<=o/\o<hi/\C.w.heap.size<=b):=by
 obtain ⟨e1,e2,e3,e4,e5,e6,e7,e8,e9,e10,e11⟩:=Lw (w:=w) (x:=(b,lo,hi)) h;rcases hm with ⟨i,ar,hx⟩|⟨i,ar,h1,h2,h3⟩
 ·exact .inl (.inl ⟨i,by rwa [e4] at ar,by rwa [e3] at hx⟩)
 ·rw [e7] at h1 h2 h3;dsimp only at h1 h2 h3;by_cases hid:i=Hq C c
  ·rw [if_pos hid] at h1 h2 h3;simp only at h1 h2 h3;rcases hn with hn|hn|⟨id,ep,s,rfl,g1,g2,g3⟩
   ·omega
   ·exact .inr ⟨h1.symm,h2,h3,hn⟩
   ·refine .inl (.inr ⟨id,?_,by rw [g1,h1],aA,aA⟩);simp only [Ba,Cf,beq_iff_eq] at h;exact Bb h.2
  ·rw [if_neg hid] at h1 h2 h3;refine .inl (.inr ⟨i,?_,h1,h2,h3⟩);rcases e10 i ar with hh|hh
   ·exact absurd hh hid
   ·exact hh
theorem Le.of_tok {C:Cx} {w:World} {c:Cap} {b lo hi sz:Nat} (h:Ba C.tk c sz=true) (hn:Lp C c b lo hi) (hos:w.os=C.w.os) (ud:w.tape=C.w.tape) (ml:w.output=C.w.output) (ue:C.w.heap.size<=w.heap.size)
  (hcell:∀ x o v,C.w.cell? ⟨x,o,none⟩=some v->¬ C.Mut x o->w.cell? ⟨x,o,none⟩=some v) (uf:∀ x,x<C.w.heap.size->(∀ o,¬ C.Mut x o)->w.heap[x]?=C.w.heap[x]?)
  (pg:∀ (b:Nat) (cs:Array Value) (t:TypeId) (fz:Nat × Nat),C.w.heap[b]?=some (gD cs t fz)->∃ cs':Array Value,w.heap[b]?=some (gD cs' t fz)/\cs'.size=cs.size):Le C (C.tok w c (b,lo,hi)):=by
 obtain ⟨e1,e2,e3,e4,e5,e6,e7,e8,e9,e10,e11⟩:=Lw (w:=w) (x:=(b,lo,hi)) h;refine ⟨by rw [e1,hos],by rw [e1,ud],by rw [e1,ml],by rw [e1]; exact ue,e2,by rw [e5]; exact Cb _,fun x o hlt hm=>?_,by rw [e1]; exact hcell,by rw [e1]; exact uf,by rw [e1]; exact pg,fun i x hx _=>⟨x,by rwa [e4] at hx,rfl,by rw [e3]⟩,fun i k hk=>?_⟩
 ·rcases Qe h hn hm with h'|⟨rfl,-,-,h'⟩
  ·exact h'
  ·omega
 ·obtain ⟨k',g1,g2,g3⟩:=e11 i k hk;exact ⟨k',g1,g2,fun e=>by rw [e7]; simp only; rw [if_neg (g3 e)]⟩
theorem SR.of_tok [Globs] {C:Cx} (am:SR C) {w:World} {c:Cap} {b lo hi sz:Nat} (h:Ba C.tk c sz=true) (hn:Lp C c b lo hi) (hlt:lo<hi->b<w.heap.size) (hle:Le C (C.tok w c (b,lo,hi)))
  (ug:∀ i,i<C.S.length->w.heap[C.φ i]?=C.w.heap[C.φ i]?):SR (C.tok w c (b,lo,hi)):=by
 obtain ⟨e1,e2,e3,e4,e5,e6,e7,e8,e9,e10,e11⟩:=Lw (w:=w) (x:=(b,lo,hi)) h;have old:∀ i,i<(C.tok w c (b,lo,hi)).tk.length->i≠Hq C c->i<C.tk.length:=fun i ar hne=>(e10 i ar).resolve_left hne;have key:∀ o,lo<=o->o<hi->(∀ j,j<C.tk.length->j≠Hq C c->(C.ψ j).1=b->(C.ψ j).2.1<=o->o<(C.ψ j).2.2->False)/\(∀ i,i<C.S.length->C.φ i=b->False)/\¬ C.av b o:=by
  intro o h1 h2;rcases hn with hn|hn|⟨id,ep,s,rfl,g1,g2,g3⟩
  ·omega
  ·refine ⟨fun j hj _ hb k1 k2=>?_,fun i ar hb=>?_,fun ha=>?_⟩
   ·have:=am.tlt j o hj k1 k2; omega
   ·have:=M5 am ar; omega
   ·have:=am.avlt b o ha; omega
  ·simp only [Ba,Cf,beq_iff_eq] at h;have hid:=Bb h.2;refine ⟨fun j hj hne hb k1 k2=>hne (am.tok j id o hj hid (by rw [hb,g1]) k1 k2 aA aA),fun i ar hb=>am.apart i id o ar hid (by rw [hb,g1]) aA aA,am.own b o (.inr ⟨id,hid,g1,aA,aA⟩)⟩
 refine ⟨fun i x hx=>?_,fun i j ar hj hh=>?_,fun i j o ar hj hh h1 h2 h3 h4=>?_,fun i j o ar hj hh h1 h2=>?_,fun x o hm=>?_,fun x o ha=>?_,fun i o ar h1 h2=>?_,Np am hle⟩
 ·rw [e4] at hx;obtain ⟨g1,arr,t,g2,vs',r',sm,g3⟩:=am.ent i x hx;refine ⟨by rw [e5]; exact g1,arr,t,by rw [e1,e3,ug i (Bb hx)]; exact g2,vs',r',sm,VRs.mono hle _ _ g3⟩
 ·rw [e4] at ar hj; rw [e3] at hh;exact am.ne i j ar hj hh
 ·rw [e7] at hh h1 h2 h3 h4;simp only at hh h1 h2 h3 h4;by_cases tw:i=Hq C c <;> by_cases uh:j=Hq C c
  ·rw [tw,uh]
  ·rw [if_pos tw] at hh h1 h2; rw [if_neg uh] at hh h3 h4;simp only at hh h1 h2;exact ((key o h1 h2).1 j (old j hj uh) uh hh.symm h3 h4).elim
  ·rw [if_neg tw] at hh h1 h2; rw [if_pos uh] at hh h3 h4;simp only at hh h3 h4;exact ((key o h3 h4).1 i (old i ar tw) tw hh h1 h2).elim
  ·rw [if_neg tw] at hh h1 h2; rw [if_neg uh] at hh h3 h4;exact am.tok i j o (old i ar tw) (old j hj uh) hh h1 h2 h3 h4
 ·rw [e4] at ar; rw [e3,e7] at hh; rw [e7] at h1 h2;simp only at hh h1 h2;by_cases uh:j=Hq C c
  ·rw [if_pos uh] at hh h1 h2;simp only at hh h1 h2;exact (key o h1 h2).2.1 i ar hh
  ·rw [if_neg uh] at hh h1 h2;exact am.apart i j o ar (old j hj uh) hh h1 h2
 ·rw [e2];rcases Qe h hn hm with h'|⟨rfl,h1,h2,h3⟩
  ·exact am.own x o h'
  ·exact (key o h1 h2).2.2
 ·rw [e2] at ha; rw [e1];have:=am.avlt x o ha;have:=hle.size;rw [e1] at this;omega
 ·rw [e7] at h1 h2 ⊢; rw [e1];simp only at h1 h2 ⊢;by_cases tw:i=Hq C c
  ·rw [if_pos tw] at h1 h2 ⊢;exact hlt (by simp only at h1 h2; omega)
  ·rw [if_neg tw] at h1 h2 ⊢;have h3:=am.tlt i o (old i ar tw) h1 h2;have h4:=hle.size;rw [e1] at h4;omega
theorem Uv {t:TypeId} {sz:Nat} (h:apT P t=some sz):∃ e i z,P.underlying t=some (.slice e)/\P.info? e=some i/\i.zero=some z/\i.size=sz/\0<sz/\z.cells.size=sz/\i.bytes<=1048576/\(sz=3->i.bytes<=40):=by
 unfold apT at h;split at h
 ·rename_i e he;split at h
  ·rename_i s z i hs hz hi;split at h
   ·rename_i hh;simp only [A0] at h; subst h;simp only [szOf,hi,Cu,A0] at hs;simp only [Ar,hi,Lg,B6] at hz;obtain ⟨v,hv,rfl⟩:=hz;exact ⟨e,i,v,Dp he,hi,hv,hs,aA,by simpa using hh.1,hh.2.1,fun e=>hh.2.2 aA⟩
   ·simp at h
  ·simp at h
 ·simp at h
theorem Mx {sz:Nat} : ∀ {es:List (List AV)},Dv sz es=true->(∀ e ∈ es,e.length=sz):=by
 intro es h e he;simp only [Dv,Cz,beq_iff_eq] at h;exact h e he
def Src (C:Cx) (ys:List (List AV)) (vy:Value):Prop:=∃ a m cap,vy=.slice a m cap/\ys.length=m/\(m=0\/∃ b o news,a=some ⟨b,o,none⟩/\PRs C.w C.Avoid ys.flatten news/\∀ (j:Nat) u,news[j]?=some u->C.w.cell? ⟨b,o+j,none⟩=some u)
theorem Abr {sz:Nat} : ∀ {l:List (List AV)},(∀ e ∈ l,e.length=sz)->l.flatten.length=l.length*sz
 | [],_=>by simp
 | e :: l,h=>by
  rw [Fm,Cn,h e (by simp),Abr (l:=l) fun x hx=>h x bG,Ck,Mi]; omega
theorem Ww [Globs] {C:Cx} (am:SR C) {t ty:TypeId} {x y av:AV} {vx vy:Value} {tk':List Nat} {ys0:List (List AV)} {c20:Cap} (hx:VR C x vx) (mn:y=.frz ys0 c20) (zj:Src C ys0 vy) (h:apA P t x y C.tk=some (av,tk')) :
  ∃ v C',(Og #[t,t] ty #[vx,vy]).run P C.w=.ok v C'.w/\Le C C'/\SR C'/\C'.S=C.S/\C'.tk=tk'/\C'.n=C.n/\VR C' av v:=by
 unfold apA at h;split at h
 ·rename_i es c ys c2 sz hT;simp only [AV.frz.injEq] at mn;obtain ⟨rfl,rfl⟩:=mn;split at h
  ·rename_i hh;obtain ⟨ae,df,hry,bl⟩:=hh;simp only [A0,Cc] at h;obtain ⟨rfl,rfl⟩:=h;obtain ⟨e,i,z,hu,hi,hz,hsz,hpos,ry,hby,a02⟩:=Uv hT;simp only [VR] at hx;obtain ⟨a,len,cap,rfl,hlen,hcap,hC,hE⟩:=hx;obtain ⟨a2,m,cap2,rfl,hm,hY⟩:=zj;simp only [Aib,Fz,Cf,beq_iff_eq,decide_eq_true_eq] at bl;have fd:∃ olds:List Value,olds.length=len*sz/\PRs C.w C.Avoid es.flatten olds/\(olds=[]\/∃ b o,a=some ⟨b,o,none⟩/\Lie C.w C.Avoid b o olds):=by
    rcases hE with rfl|⟨b,o,s',rfl,hr⟩
    ·exact ⟨[],by simp at hlen; simp [<- hlen],by simp [PRs],.inl rfl⟩
    ·by_cases hne:es=[]
     ·subst hne; exact ⟨[],by simp at hlen; simp [<- hlen],by simp [PRs],.inl rfl⟩
     ·have:=Mg hr df hne;subst this;obtain ⟨l,g1,g2,g3⟩:=Gm hr;exact ⟨l,by rw [g1,hlen],g2,.inr ⟨b,o,rfl,g3⟩⟩
   obtain ⟨olds,fw,l9,xv⟩:=fd;by_cases cu:m=0
   ·subst cu;have hys:ys=[]:=Fg hm;subst hys;have hrun:=R1 (P:=P) C.w t e i ty hu hi a a2 len cap cap2 hcap;obtain ⟨b,lo,ar,hn,hc⟩:∃ b lo ar,Lp C c b lo ar/\(lo<ar->b<C.w.heap.size)/\(cap=len\/∃ cs t,a=some ⟨b,0,none⟩/\(b,lo,ar)=(b,len*sz,cap*sz)/\C.w.heap[b]?=some (.cells cs t (0,0))/\cap*sz<=cs.size):=by
     cases c with
     | unk=>simp [Ba] at ae
     | tight=>exact ⟨0,0,0,.inl (Cb _),aA,.inl hC⟩
     | nilc=>exact ⟨0,0,0,.inl (Cb _),aA,.inl hC.2⟩
     | nl=>simp [Ba] at ae
     | nn=>simp [Ba] at ae
     | tok id ep s =>
      simp only [Ba,Cf,beq_iff_eq] at ae;obtain ⟨rfl,ae⟩:=ae;obtain ⟨k,h1,h2,h3⟩:=hC;rw [ae] at h1; simp only [A0] at h1; subst h1;rcases h3 rfl with h3|⟨b,cs,t',g1,g2,g3,g4⟩
      ·exact ⟨0,0,0,.inl (Cb _),aA,.inl h3⟩
      ·exact ⟨b,len*s,cap*s,.inr (.inr ⟨id,ep,s,rfl,by rw [g2],by rw [g2]; exact Cb _,by rw [g2]; exact Cb _⟩),fun _=>(Ci.1 g3).1,.inr ⟨cs,t',g1,rfl,g3,g4⟩⟩
    have hle:Le C (C.tok C.w c (b,lo,ar)):=Le.of_tok ae hn rfl rfl rfl (Cb _) (fun _ _ _ h _=>h) (fun _ _ _=>rfl) (fun _ cs _ _ h=>⟨cs,h,rfl⟩);obtain ⟨e1,e2,e3,e4,e5,e6,-⟩:=Lw (w:=C.w) (x:=(b,lo,ar)) ae;refine ⟨.slice a len cap,C.tok C.w c (b,lo,ar),Za4d,hle,SR.of_tok am ae hn hc.1 hle (fun _ _=>rfl),e4,e6,e5,?_⟩;simp only [VR,Fu];refine ⟨a,len,cap,rfl,hlen,hcap,Jp ae hc.2,hE.imp id ?_⟩;rintro ⟨b,o,s',rfl,hr⟩;exact ⟨b,o,s',rfl,Bt.stays hle.stays _ _ _ _ hr⟩
   ·obtain ⟨b2,o2,news,rfl,bc,xw⟩:=hY.resolve_left cu;have cj:news.length=m*sz:=by rw [<- K3 bc,Abr (Mx hry),hm]
    have bu:=Up bc;have gc:∀ (j:Nat) u,news[j]?=some u->C.w.cell? (gV ⟨b2,o2,none⟩ j)=some u:=fun j u hj=>by rw [Dl]; exact xw j u hj
    have gt:∀ e ∈ es++ys,e.length=sz:=fun x hx=>by
     rcases Cr.1 hx with hx|hx
     ·exact Mx df x hx
     ·exact Mx hry x hx
    by_cases d6:(∃ id ep s b cs t',c=.tok id ep s/\nth C.tk id=some ep/\s=sz/\a=some ⟨b,0,none⟩/\C.ψ id=(b,len*sz,cap*sz)/\C.w.heap[b]?=some (.cells cs t' (0,0))/\cap*sz<=cs.size)/\len+m<=cap
    ·obtain ⟨⟨id,ep,s,b,arr,t',rfl,hid,rfl,rfl,hψ,hb,eo⟩,gd⟩:=d6;have jk:(len+m)*s<=cap*s:=F0 _ gd;have sn:(len+m)*s=len*s+m*s:=O8 _ _ _;have hms:0<m*s:=Nat.mul_pos aA hpos;have hrun:=J5 (P:=P) C.w t ty e i hu hi b len cap t' arr hb ⟨b2,o2,none⟩ m cap2 news cU gc bu gd (by rw [hsz,cj]; omega);rw [hsz] at hrun;generalize hA:(arr.toList.take (len*s)++news++arr.toList.drop (len*s+news.length)).toArray=arr' at hrun;have jz:arr'.size=arr.size:=by rw [<- hA]; simp; omega
     have zk:∀ o,(o<len*s\/(len+m)*s<=o)->arr'[o]?=arr[o]?:=by
      intro o ho;rw [<- hA];simp only [Sj];rcases ho with ho|ho
      ·rw [C7,Cp aB,Iq ho]; simp
      ·rw [C8 aB,O9,<- Array.getElem?_toList];congr 1;simp;omega
     have hlt:b<C.w.heap.size:=(Ci.1 hb).1;have dt:=Bb hid;have ph:∀ o,len*s<=o->o<cap*s->C.Mut b o:=fun o h1 h2=>.inr ⟨id,dt,by rw [hψ],Za4r,by rw [hψ]; exact h2⟩;have hn:Lp C (.tok id ep s) b ((len+m)*s) (cap*s):=.inr (.inr ⟨id,ep,s,rfl,by rw [hψ],dX,by rw [hψ]; exact Cb _⟩);have hle:Le C (C.tok (C.w.setRow b arr') (.tok id ep s) (b,(len+m)*s,cap*s)):=by
      refine Le.of_tok ae hn rfl rfl rfl (by simp) ?_ ?_ ?_
      ·intro x o v hv fe;by_cases ui:x=b
       ·subst ui;have:o<len*s\/(len+m)*s<=o:=by
         rcases Ic o (len*s) with h|h
         ·exact .inl h
         ·right;rcases Ic o (cap*s) with h'|h'
          ·exact absurd (ph o h h') fe
          ·omega
        have h1:=setRow_heap C.w x arr arr' t' (0,0) hb;simp only [It,hb] at hv;simp only [It,h1,zk o this];exact hv
       ·simpa [It,setRow_other C.w b x arr' ui] using hv
      ·intro x _ fe;refine setRow_other C.w b x arr' fun h=>fe (len*s) (h ▸ ph _ (Cb _) aA)
      ·intro x d t'' fz hd;by_cases ui:x=b
       ·subst ui;rw [hb] at hd;simp only [A0,iA] at hd;obtain ⟨rfl,rfl,rfl⟩:=hd;exact ⟨arr',setRow_heap _ _ _ _ _ _ hb,jz⟩
       ·exact ⟨d,by rw [setRow_other _ _ _ _ ui]; exact hd,rfl⟩
     obtain ⟨e1,e2,e3,e4,e5,e6,e7,e8,e9,e10,e11⟩:=Lw (w:=C.w.setRow b arr') (x:=(b,(len+m)*s,cap*s)) ae;have pm:=SR.of_tok am ae hn (fun _=>aQ) hle (fun i hi=>setRow_other _ _ _ _ fun h=>am.apart i id (len*s) hi dt (by rw [hψ]; exact h) (by rw [hψ]; exact Cb _) dX);refine ⟨.slice (some ⟨b,0,none⟩) (len+m) cap,_,Za4d,hle,pm,e4,e6,e5,?_⟩;have tx:(C.w.setRow b arr').heap[b]?=some (.cells arr' t' (0,0)):=setRow_heap _ _ _ _ _ _ hb;simp only [VR];refine ⟨_,len+m,cap,rfl,aB,gd,Jp ae (.inr ⟨arr',t',rfl,rfl,tx,aA⟩),.inr ⟨b,0,s,rfl,?_⟩⟩;have ah:=hle.stays;refine Ge (l:=olds++news) gt Za0t (J2 fun j v hj=>?_);rw [Fo];rcases Ic j olds.length with xx|xx
     ·rw [Cp xx] at hj;rcases xv with rfl|⟨b',o',ha,hl⟩
      ·simp at xx
      ·simp only [A0,Addr.mk.injEq,and_true] at ha;obtain ⟨rfl,rfl⟩:=ha;have:=J1 (hl.stays ah) j v hj;exact Ya17
     ·rw [C8 xx] at hj;have hjn:=(Fq.1 hj).1;have h1:len*s<=j:=aA
      have h2:j<(len+m)*s:=aA
      constructor
      ·rw [e1];simp only [It,tx];have:arr'[j]?=some v:=by
        rw [<- hA];simp only [Sj];rw [Cp aB,C8 aB];rw [<- hj]; congr 1; simp; omega
       exact Ya17
      ·rintro (di|⟨k,hk,hφ⟩|⟨k,hk,g1,g2,g3⟩)
       ·rw [e2] at di;exact am.own b j (ph j h1 aA) di
       ·rw [e4] at hk; rw [e3] at hφ;exact am.apart k id j hk dt (by rw [hψ]; exact hφ) Za4r dX
       ·rw [e7] at g1 g2 g3;dsimp only at g1 g2 g3;by_cases mo:k=id
        ·rw [if_pos (show k=Hq C (.tok id ep s) from mo)] at g1 g2 g3;simp only at g2; omega
        ·rw [if_neg (show ¬ k=Hq C (.tok id ep s) from mo)] at g1 g2 g3;have hk':=(e10 k hk).resolve_left mo;exact mo (am.tok k id j hk' dt (by rw [hψ]; exact g1) g2 g3 Za4r dX)
    ·have f8:cap<len+m:=by
      rcases Ic cap (len+m) with h|h
      ·exact h
      ·exfalso;cases c with
       | unk=>simp [Ba] at ae
       | tight=>have:cap=len:=hC; omega
       | nilc=>have:cap=len:=hC.2; omega
       | nl=>simp [Ba] at ae
       | nn=>simp [Ba] at ae
       | tok id ep s =>
        simp only [Ba,Cf,beq_iff_eq] at ae;obtain ⟨rfl,ae⟩:=ae;obtain ⟨k,h1,h2,h3⟩:=hC;rw [ae] at h1; simp only [A0] at h1; subst h1;rcases h3 rfl with h3|⟨b,cs,t',g1,g2,g3,g4⟩
        ·omega
        ·exact d6 ⟨⟨id,ep,s,b,cs,t',rfl,ae,rfl,g1,g2,g3,g4⟩,h⟩
     have jk:len*sz+m*sz=(len+m)*sz:=(O8 _ _ _).symm;have ff:(len+m)*i.bytes<=140737488355328:=by
      rcases bl with bl|⟨h3,bl⟩
      ·have:(len+m)*i.bytes<=1048576*1048576:=Ot aA hby
       omega
      ·have:(len+m)*i.bytes<=3518437208883*40:=Ot aA (a02 h3);omega
     obtain ⟨ncap,zs,hrun,lu,hzl⟩:∃ ncap zs,(Og #[t,t] ty #[.slice a len cap,.slice (some ⟨b2,o2,none⟩) m cap2]).run P C.w=.ok (.slice (some ⟨C.w.heap.size,0,none⟩) (len+m) ncap) (C.w.drew.alloc (.cells (olds++news++zs).toArray e))/\len+m<=ncap/\zs.length=(ncap - (len+m))*sz:=by
      cases a with
      | none =>
       have uj:len=0:=by
        rcases xv with h|⟨b,o,h,-⟩
        ·rw [h] at fw;simp only [C3] at fw;rcases Nat.mul_eq_zero.1 fw.symm with h|h
         ·exact h
         ·omega
        ·simp at h
       have uk:cap=0:=by
        cases c with
        | unk=>simp [Ba] at ae
        | tight=>have:cap=len:=hC; omega
        | nilc=>have:cap=len:=hC.2; omega
        | nl=>simp [Ba] at ae
        | nn=>simp [Ba] at ae
        | tok id ep s =>
         simp only [Ba,Cf,beq_iff_eq] at ae;obtain ⟨k,h1,h2,h3⟩:=hC;rw [ae.2] at h1; simp only [A0] at h1; subst h1;rcases h3 rfl with h3|⟨b,cs,t',g1,-⟩
         ·omega
         ·simp at g1
       subst uj uk;have ho:olds=[]:=Fg (by simpa using fw);subst ho;have:=run_append_nil (P:=P) C.w t ty e i z hu hi hz ⟨b2,o2,none⟩ m cap2 news cU gc aA aA (by simp only [Fo] at ff; omega);refine ⟨grownCap C.w m 0 e,(Nx z.cells (grownCap C.w m 0 e - m)).toList,?_,by have:=grownCap_ge C.w m 0 e; omega,by simp [size_zeroCells,ry]⟩;rw [this];simp only [Fo,Ct];congr 3;apply gG; simp
      | some ad =>
       obtain ⟨b,o,hab,hcells⟩:∃ b o,(olds=[]\/ad=⟨b,o,none⟩)/\∀ (j:Nat) v,olds[j]?=some v->C.w.cell? (ad.add j)=some v:=by
        rcases xv with rfl|⟨b,o,h,hl⟩
        ·exact ⟨0,0,.inl rfl,by simp⟩
        ·simp only [A0] at h; subst h;exact ⟨b,o,.inr rfl,fun j v hj=>by rw [Dl]; exact (J1 hl j v hj).1⟩
       have:=run_append_grow (P:=P) C.w t ty e i z hu hi hz ad len cap olds (by rw [hsz]; exact fw) hcells ⟨b2,o2,none⟩ m cap2 news cU gc f8 aA (growslice_fits f8 ff);refine ⟨grownCap C.w (len+m) cap e,(Nx z.cells (grownCap C.w (len+m) cap e - (len+m))).toList,?_,grownCap_ge C.w (len+m) cap e,by simp [size_zeroCells,ry]⟩;rw [this];congr 3;apply gG; simp
     have hbel:Below C.w.heap.size C.w (C.w.drew.alloc (.cells (olds++news++zs).toArray e)):=((Fb _ _).drew).alloc (by simp) _;have su:(C.w.drew.alloc (.cells (olds++news++zs).toArray e)).heap[C.w.heap.size]?=some (.cells (olds++news++zs).toArray e (0,0)):=An C.w.drew _;have hn:Lp C c C.w.heap.size ((len+m)*sz) (ncap*sz):=.inr (.inl (Cb _));have hle:Le C (C.tok (C.w.drew.alloc (.cells (olds++news++zs).toArray e)) c (C.w.heap.size,(len+m)*sz,ncap*sz)) :=
      Le.of_tok ae hn hbel.os hbel.tape hbel.output hbel.size (fun b o v hv _=>Za38) (fun b hb _=>hbel.block b hb) (fun b cs t fz hb=>⟨cs,Dc hbel hb,rfl⟩)
     have pm:=SR.of_tok am ae hn (fun _=>(Ci.1 su).1) hle (fun i hi=>hbel.block _ (M5 am hi));obtain ⟨e1,e2,e3,e4,e5,e6,e7,e8,e9,e10,e11⟩:=Lw (w:=C.w.drew.alloc (.cells (olds++news++zs).toArray e)) (x:=(C.w.heap.size,(len+m)*sz,ncap*sz)) ae;refine ⟨_,_,Za4d,hle,pm,e4,e6,e5,?_⟩;have hzz:(ncap - (len+m))*sz=ncap*sz - (len+m)*sz:=Nat.sub_mul _ _ _;have hnn:(len+m)*sz<=ncap*sz:=F0 _ lu;simp only [VR];refine ⟨_,len+m,ncap,rfl,aB,lu,Jp ae (.inr ⟨_,e,rfl,rfl,su,aB⟩),.inr ⟨C.w.heap.size,0,sz,rfl,?_⟩⟩;have ah:=hle.stays;refine Ge (l:=olds++news) gt Za0t (J2 fun j v hj=>?_);rw [Fo];have io:j<(len+m)*sz:=by
      exact Ya0z
     constructor
     ·rw [e1];simp only [It,su];have zl:j<(olds++news).length:=(Fq.1 hj).1;have:(olds++news++zs)[j]?=some v:=by rw [Cp zl]; exact hj
      exact Ya17
     ·rintro (di|dx)
      ·rw [e2] at di;have:=am.avlt _ _ di; omega
      ·rcases Qe ae hn dx with h|⟨-,h1,h2,-⟩
       ·exact am.fresh (Cb _) (.inr h)
       ·omega
  ·simp at h
 ·simp at h
theorem Ae7 [Globs] {C:Cx} (am:SR C) {t ty:TypeId} {x y av:AV} {vx vy:Value} {tk':List Nat} (hx:VR C x vx) (hy:VR C y vy) (h:apA P t x y C.tk=some (av,tk')) :
  ∃ v C',(Og #[t,t] ty #[vx,vy]).run P C.w=.ok v C'.w/\Le C C'/\SR C'/\C'.S=C.S/\C'.tk=tk'/\C'.n=C.n/\VR C' av v:=by
 have h0:=h;unfold apA at h;split at h
 ·rename_i es c ys c2 sz hT;refine Ww am hx rfl ?_ h0;simp only [VR] at hy;obtain ⟨a,m,cap,rfl,hm,-,-,hY⟩:=hy;refine ⟨a,m,cap,rfl,hm,?_⟩;rcases hY with rfl|⟨b,o,s',rfl,hr⟩
  ·left; simpa using hm.symm
  ·right;obtain ⟨l,g1,g2,g3⟩:=Gm hr;exact ⟨b,o,l,rfl,g2,fun j u hj=>(J1 g3 j u hj).1⟩
 ·simp at h
theorem V6 {w:World} {e:TypeId} {z:List AV} {s m:Nat} (hz:Ar P e=some z) (ry:z.length=s) (ly:0<s) :
  ∃ (zv:Value) (arr:Array Value),(zeroValue e).run P w=.ok zv w/\arr.toList.map cst1=(Cd m z).flatten/\(m*s=0->arr=#[])/\(m*s≠0->arr=(So (m*s)).map fun x=>zv.cells[x % zv.cells.size]!):=by
 obtain ⟨zv,hz1,rfl⟩:=Jk (w:=w) hz;have hl:zv.cells.toList.length=s:=by simpa using ry
 have nh:zv.cells.size=s:=bS
 by_cases hm:m*s=0
 ·have cu:m=0:=by
   rcases Nat.mul_eq_zero.1 hm with h|h
   ·exact h
   ·omega
  exact ⟨zv,#[],hz1,by simp [cu],fun _=>rfl,fun h=>absurd hm h⟩
 ·refine ⟨zv,(So (m*s)).map fun x=>zv.cells[x % zv.cells.size]!,hz1,?_,fun h=>absurd h hm,fun _=>rfl⟩;have:=Rp zv.cells.toList s hl ly m;have e1:((So (m*s)).map (zv.cells[· % zv.cells.size]!)).toList=(Cd m zv.cells.toList).flatten:=by
   rw [<- this];simp [nh,Array.toList_range];intro a _; rw [getElem!_def]; cases zv.cells[a % s]? <;> rfl
  rw [e1,List.map_flatten,iN]
theorem Ahl {C:Cx} {t:TypeId} {l c:AV} {vl vc:Value} {n sz:Nat} {cs:List AV} (hl:VR C l vl) (hc:VR C c vc) (h:mkA P t l c=some (n,sz,cs)) :
  ∃ (e:TypeId) (m:Nat) (arr:Array Value),(Instr.makeSlice t vl vc).run P C.w=.ok (.slice (some ⟨C.w.heap.size,0,none⟩) n m) (C.w.alloc (.cells arr e))/\arr.toList.map cst1=cs/\n<=m/\cs.length=m*sz/\intN l=some n:=by
 unfold mkA mkB at h;split at h
 ·rename_i l' c' sz' z b h1 h2 h3 h4 h5;split at h
  ·rename_i hh;simp only [A0,Cc] at h;obtain ⟨rfl,rfl,rfl⟩:=h;obtain ⟨g1,g2,g3,g4⟩:=hh;cases he:A7 P t with
   | none=>rw [he] at h3; simp at h3
   | some e =>
    rw [he] at h3 h4 h5;simp only [Lg] at h3 h4 h5;obtain ⟨kl,rfl⟩:=D6 h1 hl;obtain ⟨kc,rfl⟩:=D6 h2 hc;obtain ⟨zv,arr,r1,r2,r3,r4⟩:=V6 (w:=C.w) (m:=c') h4 g4 aA;refine ⟨e,c',arr,?_,r2,g1,?_,h1⟩
    ·simp only [H5,B6] at h5;obtain ⟨i,hi,rfl⟩:=h5;have w1:Ce.wrap (l':Int)=l':=Go.IntWalk.i64_in _ aA;have w2:Ce.wrap (c':Int)=c':=Go.IntWalk.i64_in _ aA;have hb:(i.bytes:Int)*(c':Int)<=2 ^ 40:=by
      have:i.bytes*c'<=1048576*1048576:=Ot g3 g2;have e:((i.bytes*c':Nat):Int)=(i.bytes:Int)*c':=by simp
      rw [<- e]; omega
     have xy:c'*i.bytes<=2 ^ 40:=by
       rw [I2]; have:((i.bytes*c':Nat):Int)=(i.bytes:Int)*c':=by simp
       omega
     have n1:¬ ((c':Int)<0\/(i.bytes:Int)*c' > 2 ^ 48):=aA
     have n2:¬ ((l':Int)<0):=aA
     have n3:¬ ((l':Int) > (c':Int)):=aA
     have n4:¬ (c'*i.bytes > roomBytes):=by unfold roomBytes; omega
     have bl:(askRoom (c'*i.bytes)).run P C.w=.ok () C.w:=by simp [askRoom,n4]
     simp [Instr.makeSlice,Fe,Bf (Dp he),asInt,asIntOf,typeInfo,w1,w2,hi];rw [if_neg aA];simp only [bl,Ea,Eg h3];by_cases hm:c'*(sz'+1)=0
     ·have e0:∀ f:Nat->Value,(So 0).map f=#[]:=fun f=>by simp
      rw [if_pos hm,r3 hm,hm,e0];rfl
     ·rw [if_neg hm,r4 hm,r1];rfl
    ·have:∀ (m:Nat) (z:List AV),(Cd m z).flatten.length=m*z.length:=fun m z=>by simp
     rw [this,g4]
  ·simp at h
 ·simp at h
theorem Ab8 {α:Type} : ∀ {l:List α} {i:Nat} {x:α},nth l i=some x->put l i x=l
 | _ :: _,0,_,h=>dU
 | _ :: l,i+1,_,h=>by simp only [nth] at h; simp only [put,Ab8 h]
 | [],_,_,h=>bU
theorem Aeg [Globs] {C:Cx} (am:SR C) {sz n m:Nat} {s:AV} {vs:Value} {cs:List AV} (hs:VR C s vs) (hl:lenA s=some m) (fe:n<=m) (h:srcA sz n s C.S=some cs) :
  ∃ news:List Value,(iM sz n vs).run P C.w=.ok news.toArray C.w/\VRs C cs news/\news.length=n*sz:=by
 unfold srcA at h;split at h
 ·rename_i es c;split at h
  ·rename_i hr;simp only [A0] at h; subst h;simp only [lenA,A0] at hl;simp only [VR] at hs;obtain ⟨a,len,cap,rfl,hlen,-,-,hE⟩:=hs;by_cases hn:n=0
   ·subst hn;exact Ya14
   ·rcases hE with rfl|⟨b,o,s',rfl,hp⟩
    ·simp at hl; omega
    ·have hne:es≠[]:=by rintro rfl; simp at hl; omega
     have:=Mg hp hr hne;subst this;obtain ⟨l,g1,g2,g3⟩:=Gm (Nl n hp);have ma:l.length=n*s':=by rw [g1,Iy,show min n es.length=n by omega]
     refine ⟨l,?_,Ja g2,ma⟩;exact run_firstCells_some (P:=P) C.w s' n ⟨b,o,none⟩ len cap l ma (fun j v hj=>by rw [Dl]; exact (J1 g3 j v hj).1)
  ·simp at h
 ·rename_i id ep off len' sz';split at h
  ·rename_i hsz;subst hsz;split at h
   ·rename_i ce he;obtain ⟨e,h1,h2,rfl⟩:=Dq he;simp only [lenA,A0] at hl;subst hl;simp only [VR] at hs;obtain ⟨b,a,cap,rfl,hcap,ha,j0,hb⟩:=hs;obtain rfl:=(hb e h1 h2).1;obtain ⟨hlt,arr,t',h3,h4⟩:=am.ent id e h1;obtain ⟨p,h4⟩:=entP h4;obtain ⟨h5,h6⟩:=Jm (K6 off h4) (by rw [Sv]; exact Aix _ h);by_cases hn:n=0
    ·subst hn;rw [Oi] at h;simp only [takeN,A0] at h; subst h;exact Ya14
    ·rcases ha with ha|rfl
     ·omega
     ·have ma:((arr.toList.drop off).take (n*sz)).length=n*sz:=by simp at h6 ⊢; omega
      refine ⟨(arr.toList.drop off).take (n*sz),?_,h5,ma⟩;refine run_firstCells_some (P:=P) C.w sz n ⟨C.φ id,off,none⟩ len' cap _ ma (fun j v hj=>?_);rw [Dl];have dy:j<n*sz:=by rw [<- ma]; exact (Fq.1 hj).1
      exact Ya1h
   ·simp at h
  ·simp at h
 ·simp at h
theorem Af5 [Globs] {C:Cx} (am:SR C) {t t' ty:TypeId} {d s:AV} {vd vs:Value} {n:Nat} {S':List Ent} (hd:VR C d vd) (hs:VR C s vs) (h:cpA P t d s C.S=some (n,S')) :
  ∃ C',(Builtin.copy_ #[t,t'] ty #[vd,vs]).run P C.w=.ok (.int .i64 (n:Int)) C'.w/\Le C C'/\SR C'/\C'.S=S'/\C'.tk=C.tk/\C'.n=C.n:=by
 unfold cpA at h;split at h
 ·rename_i id ep off len sz m hm;split at h
  ·rename_i hsz;split at h
   ·rename_i news cs0 zj a1j;split at h
    ·rename_i a03;split at h
     ·rename_i cs' ho;simp only [A0,Cc] at h;obtain ⟨rfl,rfl⟩:=h;obtain ⟨e,h1,h2,rfl⟩:=Dq a1j;obtain ⟨a2,cap2,rfl⟩:=T8 hs hm;obtain ⟨us,r1,r2,r3⟩:=Aeg (P:=P) am hs hm (Nat.min_le_left _ _) zj;simp only [VR] at hd;obtain ⟨b,a,cap,rfl,hcap,ha,j0,hb⟩:=hd;obtain rfl:=(hb e h1 h2).1;obtain ⟨hlt,arr,tt,h3,h4⟩:=am.ent id e h1;obtain ⟨p,h4⟩:=entP h4;obtain ⟨h5,h6⟩:=Jd (Ak2 p ho);have hl2:=A1 r2;have pf:=A1 h4;simp only [Ii] at pf;cases he:A7 P t with
      | none=>rw [he] at hsz; simp at hsz
      | some el =>
       rw [he] at hsz;simp only [Lg] at hsz;have a04:Nat.min m len=min m len:=rfl;by_cases hn:min m len=0
       ·rw [hn] at r3;have hus:us=[]:=Fg aA;subst hus;have gp:news=[]:=Fg (by simpa using hl2);subst gp;have:cs'=e.cells:=by
         have:cs'++p=e.cells++p:=by rw [h5]; simp [puts]
         exact List.append_cancel_right this
        subst this;have a1k:put C.S id ⟨ep,e.cells⟩=C.S:=by subst h2; exact Ab8 h1
        refine ⟨C,?_,Le.refl C,am,a1k.symm,rfl,rfl⟩;rw [hn] at r1 ⊢;cases a <;> simp [Builtin.copy_,Bf (Dp he),iV,a04,hn,Eg hsz,r1,goInt,storeCells]
       ·have ha':a=some ⟨C.φ id,off,none⟩:=ha.resolve_left (by
         intro h0;rw [h0] at hn;exact hn (Nat.min_eq_right (Cs _)))
        subst ha';have eo:off+0+us.length<=arr.size:=aA
        have hrun:=run_storeCells_at P (C.φ id) off tt us 0 arr C.w h3 eo (fun v hv'=>Mv r2 a03 v hv');have uc:=Aai (us:=us) (l:=arr.toList) (o:=off) aB;have iv:VRs C (cs'++p) (arr.toList.take off++us++arr.toList.drop (off+us.length)):=by
         rw [<- uc,h5]; exact K7 h4 r2
        refine ⟨{ C with w:=C.w.setRow (C.φ id) (arr.toList.take off++us++arr.toList.drop (off+us.length)).toArray,S:=put C.S id ⟨ep,cs'⟩ },?_,Le.of_store am h1 h2.symm h3 ?_,SR.of_store am h1 h2.symm h3 ?_ (Amf (by simpa using iv)),rfl,rfl,rfl⟩
        ·simp only [I1] at hrun;simp [Builtin.copy_,Bf (Dp he),iV,a04,Eg hsz,r1,goInt,hrun]
        ·exact Ya0o
        ·exact Ya0o
     ·simp at h
    ·simp at h
   ·simp at h
  ·simp at h
 ·simp at h
end
end
end Go.Proofs.YthelkgdmgihhiaaGreat
