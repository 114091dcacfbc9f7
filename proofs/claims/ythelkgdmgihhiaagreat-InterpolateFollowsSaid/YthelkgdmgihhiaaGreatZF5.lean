/- Part 5. -/
import Derived.Test.YthelkgdmgihhiaaGreatZF4
import Derived.Laws.AppendOwn
import Derived.Laws.OwnMore
import Derived.Laws.CopyRow
import Derived.IntWalk
open Array renaming getElem?_eq_some_iff->Cj,length_toList->It,range->iE,ext'->jU
open Bool renaming and_eq_true->Ch,false_eq_true->C6,or_eq_true->Ib
open Go renaming sizeOf->lD
open Go.Addr renaming add->kB
open Go.Builtin renaming zeroCells->Oo,append_->O8,firstCells->kT,lenOf->kZ
open Go.Instr renaming sureAddr->Sj,loadAt->jH
open Go.IntKind renaming i64->Cd
open Go.Obj renaming cells->jR
open Go.Obj.cells renaming injEq->kG
open Go.Result renaming andThen_ok->Fs
open Go.RowKit.Below renaming refl->Fw,cell->lF
open Go.Sem renaming run_bind->F0
open Go.World renaming cell?->I7
open List renaming replicate->Cg,length_cons->Ci,length_append->Cm,cons_append->Co,nil_append->Cr,length_nil->Cu,getElem?_append_left->Cv,append_assoc->Cy,mem_append->C3,mem_cons->C4,all_eq_true->C9,getElem?_append_right->Fh,append_nil->Fo,flatten_cons->F1,eq_nil_of_length_eq_zero->F2,getElem?_eq_some_iff->F5,getElem?_eq_getElem->Io,length_take->I1,getElem?_take_of_lt->I5,getElem?_take->Ms,all_cons->Ox,getElem?_drop->S7,getElem?_toArray->iA,take_add_one->iD,drop_append->iO,set_append_right->jM,flatten_append->kO,map_replicate->kU
open Nat renaming le_refl->Ce,zero_le->Cl,zero_add->Fm,lt_of_lt_of_le->F3,mul_le_mul_right->F6,lt_or_ge->Ig,add_zero->Ik,mul_comm->Iv,lt_succ_self->I4,succ_mul->I9,zero_mul->Om,mul_le_mul->O5,add_mul->Sx,le_succ->kC
open Option renaming map_eq_some_iff->Cc,map_some->C7,bind_some->Oj
open Option.some renaming injEq->Ba
open Prod.mk renaming injEq->Cf
namespace Go.Proofs.YthelkgdmgihhiaaGreat
section
open Go.RowKit
section
variable {P:Program}
theorem P1 {C:Cx} {t:TypeId} {sz:Nat} {bb:Bool} {b o:Nat} {cs:List AV} {vs:List Value} {av:AV} (hs:szOf P t=some sz) (ha:aggT P t=some bb) (hx:VRs C cs vs) (hl:∀ (j:Nat) (v:Value),vs[j]?=some v->C.w.cell? ⟨b,o+j,none⟩=some v)
  (h:partA bb sz cs=some av):Has P C (loadVar t ⟨b,o,none⟩) av:=by
 unfold partA at h;cases bb with
 | true =>
  simp only [if_true,Cc] at h;obtain ⟨ds,h1,rfl⟩:=h;obtain ⟨h2,h3⟩:=Ko hx h1;have p9:(vs.take sz).length=sz:=dJ
  have:=run_loadCells_list (P:=P) C.w ⟨b,o,none⟩ (vs.take sz) (fun j v hj=>by
   rw [Dz];refine hl j v ?_;rw [Ms] at hj;split at hj
   ·exact hj
   ·simp at hj)
  rw [p9] at this;refine ⟨.agg (vs.take sz).toArray,by simp [loadVar,Vr ha,E7 hs,this],?_⟩;simp only [VR];exact ⟨_,rfl,h2⟩
 | false =>
  simp only [C6,if_false] at h;obtain ⟨v,h1,h2⟩:=Wk hx h;refine ⟨v,?_,h2⟩;have:=hl 0 v h1;simp only [Ik] at this;simp [loadVar,Vr ha,this]
theorem Aek {C:Cx} : ∀ {a b:List AV} {l:List Value},VRs C (a++b) l->∃ l1 l2,l=l1++l2/\VRs C a l1/\VRs C b l2
 | [],b,l,h=>⟨[],l,rfl,cE,h⟩
 | x :: a,b,v :: l,h=>by
  simp only [Co,VRs] at h;obtain ⟨l1,l2,rfl,h1,h2⟩:=Aek (a:=a) h.2;exact ⟨v :: l1,l2,rfl,by simp only [VRs]; exact ⟨h.1,h1⟩,h2⟩
 | _ :: _,_,[],h=>by simp only [Co,VRs] at h
theorem entP {C:Cx} {cells:List AV} {l:List Value} (h:∃ vs r,l=vs++r/\VRs C cells vs):∃ p,VRs C (cells++p) l:=by
 obtain ⟨vs,r,rfl,h⟩:=h;exact ⟨_,He h (Xr r)⟩
theorem Aq9 {C:Cx} {cells p:List AV} {l:List Value} (h:VRs C (cells++p) l):∃ vs r,l=vs++r/\VRs C cells vs:=by
 obtain ⟨l1,l2,e,h1,-⟩:=Aek h;exact ⟨l1,l2,e,h1⟩
theorem Apr (p:List AV):∀ {cs:List AV} {o:Nat} {vs cs':List AV},over cs o vs=some cs'->over (cs++p) o vs=some (cs'++p)
 | cs,0,[],cs',h=>by
  have:cs=cs':=by cases cs <;> simpa [over] using h
  subst this;cases (cs++p) <;> rfl
 | c :: cs,k+1,vs,cs',h=>by
  exact Ya1g
 | _ :: cs,0,v :: vs,cs',h=>by
  exact Ya1g
 | [],0,_ :: _,_,h=>fT
 | [],_+1,_,_,h=>fT
theorem Anc (p:List AV):∀ {n:Nat} {cs x:List AV},takeN n cs=some x->takeN n (cs++p)=some x
 | 0,_,_,h=>by simpa [takeN] using h
 | n+1,[],_,h=>by simp [takeN] at h
 | n+1,c :: cs,x,h=>by
  simp only [takeN,Cc] at h;obtain ⟨y,h,rfl⟩:=h;simp only [Co,takeN,Anc p h,C7]
theorem Avf (p:List AV) {b:Bool} {n:Nat} {cs:List AV} {x:AV} (h:partA b n cs=some x):partA b n (cs++p)=some x:=by
 unfold partA at h ⊢;cases b with
 | true =>
  simp only [if_true,Cc] at h ⊢;obtain ⟨y,h,rfl⟩:=h;exact ⟨y,Anc p h,rfl⟩
 | false =>
  simp only [C6,if_false] at h ⊢;cases cs with
  | nil=>simp [nth] at h
  | cons c cs=>exact h
theorem Du {S:List Ent} {id ep:Nat} {cs:List AV} (h:entAt S id ep=some cs):∃ e,nth S id=some e/\e.ep=ep/\e.cells=cs:=by
 unfold entAt at h;split at h
 ·rename_i e he;split at h
  ·rename_i o7; simp only [Ba] at h; exact ⟨e,he,o7,h⟩
  ·simp at h
 ·simp at h
theorem Aa2 [Globs] {C:Cx} (aq:SR C) {t:TypeId} {a av:AV} {va:Value} (hx:VR C a va) (h:ldA P t a C.S=some av):Has P C (jH t va) av:=by
 unfold ldA at h;split at h
 ·rename_i sz bb hs ha;split at h
  ·rename_i cs;simp only [VR] at hx;obtain ⟨b,o,vs,rfl,hl,hp⟩:=hx;obtain ⟨v,h1,h2⟩:=P1 (b:=b) (o:=o) hs ha (Kc hp) (fun j v hj=>(K4 hl j v hj).1) h;exact ⟨v,by simpa [jH,Sj] using h1,h2⟩
  ·rename_i id ep off;split at h
   ·rename_i cs he;obtain ⟨e,h1,h2,rfl⟩:=Du he;simp only [VR] at hx;obtain ⟨b,rfl,hn,hb⟩:=hx;obtain rfl:=hb e h1 h2;obtain ⟨-,arr,t',h3,h4⟩:=aq.ent id e h1;obtain ⟨p,h4⟩:=entP h4;obtain ⟨v,g1,g2⟩:=P1 (b:=C.φ id) (o:=off) hs ha (Mj off h4) (fun j v hj=>by
     rw [S7] at hj;simp [I7,h3]; simpa using hj) (by rw [iO]; exact Avf _ h)
    exact ⟨v,by simpa [jH,Sj] using g1,g2⟩
   ·simp at h
  ·simp at h
 ·simp at h
theorem Eg {α:Type} : ∀ {l:List α} {i:Nat} {v x:α},nth (put l i v) i=some x->x=v
 | _ :: _,0,_,_,h=>by simpa [put,nth] using h.symm
 | _ :: l,i+1,v,x,h=>Eg (l:=l) (i:=i) (by simpa [put,nth] using h)
 | [],_,_,_,h=>by simp [put,nth] at h
theorem Ae {α:Type} : ∀ {l:List α} {i j:Nat} {v:α},i≠j->nth (put l i v) j=nth l j
 | _ :: _,0,0,_,h=>absurd rfl h
 | _ :: _,0,j+1,_,_=>rfl
 | _ :: _,i+1,0,_,_=>rfl
 | _ :: l,i+1,j+1,v,h=>Ae (l:=l) (i:=i) (j:=j) aA
 | [],_,_,_,_=>rfl
theorem Ac {α:Type} {l:List α} {i:Nat} (h:i<l.length):∃ x,nth l i=some x:=⟨l[i],by rw [Af]; exact Io h⟩
theorem Adz:∀ {us l:List Value} {o:Nat},o+us.length<=l.length->sets l o us=l.take o++us++l.drop (o+us.length)
 | [],l,o,_=>by simp [sets]
 | u :: us,l,o,h=>by
  simp only [sets];simp only [Ci] at h;rw [Adz aC];have h1:(l.set o u).take (o+1)=l.take o++[u]:=by
   rw [List.take_set,iD];have:l[o]?=some (l[o]' aA):=Io _;rw [this];simp only [Option.toList_some];rw [jM _ _ aC];simp [show min o l.length=o from by omega]
  have h2:(l.set o u).drop (o+1+us.length)=l.drop (o+(us.length+1)):=by
   rw [List.drop_set_of_lt aA];congr 1;omega
  rw [h1,h2];simp
theorem Ps {C:Cx} : ∀ {cs:List AV} {vs:List Value},VRs C cs vs->cs.all leafOk=true->∀ v ∈ vs,v.oneCell'=true
 | [],[],_,_=>by simp
 | c :: cs,v :: vs,h,hl=>by
  simp only [VRs] at h;simp only [Ox,Ch] at hl;intro u hu;rcases C4.1 hu with rfl|hu
  ·cases c with
   | prim x=>have:=h.1; simp only [VR] at this; subst this; exact hl.1
   | bot=>simp [leafOk] at hl
   | agg _=>simp [leafOk] at hl
   | tup _=>simp [leafOk] at hl
   | frz _ _=>have:=h.1; simp only [VR] at this; obtain ⟨_,_,_,rfl,-⟩:=this; rfl
   | fptr _=>have:=h.1; simp only [VR] at this; obtain ⟨_,_,_,rfl,-⟩:=this; rfl
   | ref _ _ _=>have:=h.1; simp only [VR] at this; obtain ⟨_,rfl,-⟩:=this; rfl
   | sref _ _ _ _ _=>have:=h.1; simp only [VR] at this; obtain ⟨_,_,_,rfl,-⟩:=this; rfl
   | fn _ _=>have:=h.1; simp only [VR] at this; obtain ⟨_,rfl,-⟩:=this; rfl
   | bfn _ _=>have:=h.1; simp only [VR] at this; obtain ⟨_,rfl,-⟩:=this; rfl
   | ifc _ _=>have:=h.1; simp only [VR] at this; obtain ⟨_,rfl,-⟩:=this; rfl
   | mfn _ _ _=>have:=h.1; simp only [VR] at this; obtain ⟨_,rfl,-⟩:=this; rfl
   | lit _ _=>have:=h.1; simp only [VR] at this; obtain ⟨_,_,rfl,-⟩:=this; rfl
  ·exact Ps h.2 hl.2 u hu
 | [],_ :: _,h,_=>aU
 | _ :: _,[],h,_=>aU
theorem Le.of_store [Globs] {C:Cx} (aq:SR C) {id:Nat} {e e':Ent} {cs cs':Array Value} {t:TypeId} (he:nth C.S id=some e) (o7:e'.ep=e.ep) (hb:C.w.heap[C.φ id]?=some (.cells cs t (0,0))) (hsz:cs'.size=cs.size) :
  Le C { C with w:=C.w.setRow (C.φ id) cs',S:=put C.S id e' }:=by
 have hm:∀ o,C.Mut (C.φ id) o:=fun o=>.inl ⟨id,Bn he,rfl⟩;refine ⟨rfl,rfl,rfl,by simp,rfl,Ce _,?_,?_,?_,?_,?_,fun _ k hk=>⟨k,hk,Ce _,fun _=>rfl⟩⟩
 ·rintro b o - (⟨i,hi,h⟩|h)
  ·exact .inl ⟨i,fI,h⟩
  ·exact .inr h
 ·intro b o v hv hn;have hne:b≠C.φ id:=fun h=>hn (h ▸ hm o);have:=setRow_other C.w (C.φ id) b cs' hne;simpa [I7,this] using hv
 ·intro b _ hn;exact setRow_other C.w (C.φ id) b cs' fun h=>hn 0 (h ▸ hm 0)
 ·intro b d t' fz hd;by_cases h:b=C.φ id
  ·subst h;rw [hb] at hd;simp only [Ba,kG] at hd;obtain ⟨rfl,rfl,rfl⟩:=hd;exact ⟨cs',setRow_heap _ _ _ _ _ _ hb,hsz⟩
  ·exact ⟨d,Za4q,rfl⟩
 ·intro i x hx _;by_cases h:id=i
  ·subst h;have:=Eg hx;subst this;exact ⟨e,he,o7.symm,rfl⟩
  ·rw [Ae h] at hx;exact ⟨x,hx,rfl,rfl⟩
theorem SR.of_store [Globs] {C:Cx} (aq:SR C) {id:Nat} {e e':Ent} {cs cs':Array Value} {t:TypeId} (he:nth C.S id=some e) (o7:e'.ep=e.ep) (hb:C.w.heap[C.φ id]?=some (.cells cs t (0,0))) (hsz:cs'.size=cs.size) (hv:∃ vs r,cs'.toList=vs++r/\VRs C e'.cells vs) :
  SR { C with w:=C.w.setRow (C.φ id) cs',S:=put C.S id e' }:=by
 have hle:=Le.of_store aq he o7 hb hsz;refine ⟨fun i x hx=>?_,fun i j hi hj h=>aq.ne i j fI (by simpa [Am] using hj) h,aq.tok,fun i j o hi hj=>aq.apart i j o fI hj,?_,fun b o ha=>by have:=aq.avlt b o ha; simpa using this,fun i o hi h1 h2=>by have:=aq.tlt i o hi h1 h2; simpa using this,Qw aq hle⟩
 ·by_cases h:id=i
  ·subst h;have:=Eg hx;subst this;obtain ⟨vs,r,zq,zr⟩:=hv;exact ⟨by rw [o7]; exact (aq.ent id e he).1,cs',t,setRow_heap _ _ _ _ _ _ hb,vs,r,zq,VRs.mono hle _ _ zr⟩
  ·have hx':nth C.S i=some x:=by rw [<- Ae h]; exact hx
   obtain ⟨h1,arr,t',h2,vs',r',vr,h3⟩:=aq.ent i x hx';refine ⟨h1,arr,t',?_,vs',r',vr,VRs.mono hle _ _ h3⟩;have hne:C.φ i≠C.φ id:=fun hh=>h (aq.ne i id (Bn hx') (Bn he) hh).symm;simpa [setRow_other _ _ _ _ hne] using h2
 ·rintro b o (⟨i,hi,h⟩|h)
  ·exact aq.own b o (.inl ⟨i,fI,h⟩)
  ·exact aq.own b o (.inr h)
theorem Am5 [Globs] {C:Cx} (aq:SR C) {t:TypeId} {a x:AV} {va vx:Value} {S':List Ent} (ha:VR C a va) (hx:VR C x vx) (h:stA P t a x C.S=some S') :
  ∃ C',(Instr.storeAt t va vx).run P C.w=.ok () C'.w/\Le C C'/\SR C'/\C'.S=S'/\C'.tk=C.tk/\C'.n=C.n:=by
 unfold stA at h;split at h
 ·rename_i id ep off sz vs hs hc;split at h
  ·rename_i hh;split at h
   ·rename_i cs he;split at h
    ·rename_i cs' ho;simp only [Ba] at h; subst h;obtain ⟨e,h1,h2,rfl⟩:=Du he;simp only [VR] at ha;obtain ⟨b,rfl,hn,hb⟩:=ha;obtain rfl:=hb e h1 h2;obtain ⟨hlt,arr,t',h3,h4⟩:=aq.ent id e h1;obtain ⟨p,h4⟩:=entP h4;obtain ⟨h5,h6⟩:=Kg (Apr p ho);have hv:=G6 hc hx;have hl1:=Bb hv;have rz:=Bb h4;simp only [It] at hl1 rz;have ey:off+0+vx.cells.toList.length<=arr.size:=aC
     have hrun:=run_storeCells_at P (C.φ id) off t' vx.cells.toList 0 arr C.w h3 ey (fun v hv'=>Ps hv hh.2 v hv');have xd:=Adz (us:=vx.cells.toList) (l:=arr.toList) (o:=off) aC;have gf:VRs C (cs'++p) (arr.toList.take off++vx.cells.toList++arr.toList.drop (off+vx.cells.toList.length)):=by
      rw [<- xd,h5]; exact Mk h4 hv
     refine ⟨{ C with w:=C.w.setRow (C.φ id) (arr.toList.take off++vx.cells.toList++arr.toList.drop (off+vx.cells.toList.length)).toArray,S:=put C.S id ⟨ep,cs'⟩ },?_,Le.of_store aq h1 h2.symm h3 ?_,SR.of_store aq h1 h2.symm h3 ?_ (Aq9 (by simpa using gf)),rfl,rfl,rfl⟩
     ·have e1:vx.cells.size=sz:=aA
      simp only [Ik] at hrun;simp [Instr.storeAt,Sj,storeVar,E7 hs,e1,hrun]
     ·exact Ya13
     ·exact Ya13
    ·simp at h
   ·simp at h
  ·simp at h
 ·simp at h
def Cx.more (C:Cx) (arr:Array Value) (t:TypeId) (cs:List AV):Cx :=
 { C with w:=C.w.alloc (.cells arr t),φ:=fun i=>if i=C.S.length then C.w.heap.size else C.φ i,S:=C.S++[⟨C.n,cs⟩],n:=C.n+1 }
theorem Ky {α:Type} : ∀ {l:List α} {v x:α} {i:Nat},nth (l++[v]) i=some x->(i=l.length/\x=v)\/(i<l.length/\nth l i=some x)
 | [],v,x,0,h=>.inl ⟨rfl,by simpa [nth] using h.symm⟩
 | [],v,x,i+1,h=>bM
 | y :: l,v,x,0,h=>.inr ⟨by simp,h⟩
 | y :: l,v,x,i+1,h=>by
  rcases Ky (l:=l) (i:=i) h with ⟨h1,h2⟩|⟨h1,h2⟩
  ·exact .inl ⟨dF,h2⟩
  ·exact .inr ⟨aW,h2⟩
theorem P8 [Globs] {C:Cx} (aq:SR C) {i:Nat} (h:i<C.S.length):C.φ i<C.w.heap.size:=by
 obtain ⟨e,he⟩:=Ac h;obtain ⟨-,cs,t,h2,-⟩:=aq.ent i e he;exact (Cj.1 h2).1
theorem Le.more [Globs] {C:Cx} (aq:SR C) (arr:Array Value) (t:TypeId) (cs:List AV):Le C (C.more arr t cs):=by
 have hb:Below C.w.heap.size C.w (C.w.alloc (.cells arr t)):=(Fw _ _).alloc (Ce _) _;refine ⟨rfl,rfl,rfl,hb.size,rfl,kC _,?_,fun b o v hv _=>by rw [show (C.more arr t cs).w=C.w.alloc (.cells arr t) from rfl,lF hb (Gx hv)]; exact hv,fun b hlt _=>hb.block b hlt,fun b d t' fz hd=>⟨d,Dr hb hd,rfl⟩,?_,fun _ k hk=>⟨k,hk,Ce _,fun _=>rfl⟩⟩
 ·rintro b o hlt (⟨i,hi,h⟩|h)
  ·simp only [Cx.more] at hi h;split at h
   ·omega
   ·exact .inl ⟨i,cN,h⟩
  ·exact .inr h
 ·intro i x hx hn;rcases Ky hx with ⟨h1,h2⟩|⟨h1,h2⟩
  ·subst h2; simp at hn
  ·refine ⟨x,h2,rfl,?_⟩;simp only [Cx.more];rw [if_neg aA]
theorem SR.moreP [Globs] {C:Cx} (aq:SR C) {arr:Array Value} {t:TypeId} {cs:List AV} (hv:∃ vs r,arr.toList=vs++r/\VRs C cs vs):SR (C.more arr t cs):=by
 have hle:=Le.more aq arr t cs;have hb:Below C.w.heap.size C.w (C.w.alloc (.cells arr t)):=(Fw _ _).alloc (Ce _) _;refine ⟨fun i x hx=>?_,fun i j hi hj h=>?_,aq.tok,fun i j o hi hj h h1 h2=>?_,?_,fun b o ha=>F3 (aq.avlt b o ha) hb.size,fun i o hi h1 h2=>F3 (aq.tlt i o hi h1 h2) hb.size,Qw aq hle⟩
 ·rcases Ky hx with ⟨h1,rfl⟩|⟨h1,h2⟩
  ·obtain ⟨vs,r,zq,zr⟩:=hv;refine ⟨I4 _,arr,t,?_,vs,r,zq,VRs.mono hle _ _ zr⟩;simp only [Cx.more,h1,if_true];exact Ax _ _
  ·obtain ⟨g1,d,t',g2,vs',r',vr,g3⟩:=aq.ent i x h2;refine ⟨Nat.lt_succ_of_lt g1,d,t',?_,vs',r',vr,VRs.mono hle _ _ g3⟩;simp only [Cx.more];rw [if_neg aA];exact Dr hb g2
 ·simp only [Cx.more,Cm,Ci,Cu] at hi hj h;by_cases ar:i=C.S.length <;> by_cases fh:j=C.S.length
  ·omega
  ·rw [if_pos ar,if_neg fh] at h;have:=P8 aq (i:=j) aA; omega
  ·rw [if_neg ar,if_pos fh] at h;have:=P8 aq (i:=i) aA; omega
  ·rw [if_neg ar,if_neg fh] at h;exact aq.ne i j aA aA h
 ·simp only [Cx.more,Cm,Ci,Cu] at hi h hj h1 h2;by_cases ar:i=C.S.length
  ·rw [if_pos ar] at h;have:=aq.tlt j o hj h1 h2; omega
  ·rw [if_neg ar] at h;exact aq.apart i j o aA hj h h1 h2
 ·rintro b o (⟨i,hi,h⟩|h)
  ·simp only [Cx.more,Cm,Ci,Cu] at hi h;by_cases ar:i=C.S.length
   ·rw [if_pos ar] at h;intro ha;have:=aq.avlt b o ha; omega
   ·rw [if_neg ar] at h;exact aq.own b o (.inl ⟨i,aA,h⟩)
  ·exact aq.own b o (.inr h)
theorem SR.more [Globs] {C:Cx} (aq:SR C) {arr:Array Value} {t:TypeId} {cs:List AV} (hv:VRs C cs arr.toList):SR (C.more arr t cs):=SR.moreP aq ⟨_,[],by simp,hv⟩
theorem Aqn {C:Cx} {arr:Array Value} {t:TypeId} {cs:List AV} : VR (C.more arr t cs) (.ref C.S.length C.n 0) (.pointer (some ⟨C.w.heap.size,0,none⟩)):=by
 simp only [VR];refine ⟨_,rfl,I4 _,fun e he o7=>?_⟩;simp [Cx.more]
theorem Vs (w:World) (t e:TypeId) (i:TypeInfo) (ty:TypeId) (ht:P.underlying t=some (.slice e)) (hi:P.info? e=some i) (base a:Option Addr) (n cap c:Nat) (h:n<=cap) :
  (O8 #[t,t] ty #[.slice base n cap,.slice a 0 c]).run P w=.ok (.slice base n cap) w:=by
 cases base <;> cases a <;> simp [O8,Bq ht,lD,typeInfo,hi,kZ,kT,loadCells,loadCellsFrom,h,storeCells]
theorem K7 (w:World) (t ty e:TypeId) (i:TypeInfo) (ht:P.underlying t=some (.slice e)) (hi:P.info? e=some i)
  (g sLen sCap:Nat) (t':TypeId) (cur:Array Value) (hg:w.heap[g]?=some (.cells cur t' (0,0)))
  (a:Addr) (m c:Nat) (news:List Value) (hl:news.length=m*i.size) (jp:∀ (j:Nat) u,news[j]?=some u->w.cell? (a.add j)=some u) (h1:∀ u ∈ news,u.oneCell'=true)
  (b7:sLen+m<=sCap) (ey:sLen*i.size+news.length<=cur.size) :
  (O8 #[t,t] ty #[.slice (some ⟨g,0,none⟩) sLen sCap,.slice (some a) m c]).run P w =
   .ok (.slice (some ⟨g,0,none⟩) (sLen+m) sCap) (w.setRow g (cur.toList.take (sLen*i.size)++news++cur.toList.drop (sLen*i.size+news.length)).toArray):=by
 have hf:=run_firstCells_some (P:=P) w i.size m a m c news hl jp;have aj:=run_storeCells_at P g (sLen*i.size) t' news 0 cur w hg (by simpa using ey) h1;simp only [Ik] at aj;simp [O8,Bq ht,lD,typeInfo,hi,kZ,b7,hf,Dz,aj]
theorem Att {w:World} {A:Nat->Nat->Prop} {c:AV} {v:Value} (h:PR w A c v):v.oneCell'=true:=by
 unfold PR at h;split at h
 ·rw [h.1]; exact h.2
 ·obtain ⟨_,_,_,rfl,-⟩:=h; rfl
 ·obtain ⟨_,_,_,rfl,-⟩:=h; rfl
 ·rw [h]; rfl
 ·exact h.elim
theorem Xf {w:World} {A:Nat->Nat->Prop} : ∀ {cs:List AV} {vs:List Value},PRs w A cs vs->∀ v ∈ vs,v.oneCell'=true
 | [],[],_=>by simp
 | c :: cs,v :: vs,h=>by
  simp only [PRs] at h;intro u hu;rcases C4.1 hu with rfl|hu
  ·exact Att h.1
  ·exact Xf h.2 u hu
 | [],_ :: _,h=>bR
 | _ :: _,[],h=>bR
def Cx.tok (C:Cx) (w:World) (c:Cap) (x:Nat × Nat × Nat):Cx :=
 match c with
 | .tok id ep _=>{ C with w:=w,tk:=put C.tk id (ep+1),ψ:=fun i=>if i=id then x else C.ψ i }
 | _=>{ C with w:=w,tk:=C.tk++[0],ψ:=fun i=>if i=C.tk.length then x else C.ψ i }
def Jj (C:Cx) (c:Cap):Nat:=match c with|.tok id _ _=>id|_=>C.tk.length
theorem Nh {C:Cx} {w:World} {c:Cap} {x:Nat × Nat × Nat} {sz:Nat} (h:Be C.tk c sz=true):(C.tok w c x).w=w/\(C.tok w c x).av=C.av/\(C.tok w c x).φ=C.φ/\(C.tok w c x).S=C.S/\(C.tok w c x).n=C.n/\(C.tok w c x).tk=En C.tk c /\
  (C.tok w c x).ψ=(fun i=>if i=Jj C c then x else C.ψ i)/\C.tk.length<=(C.tok w c x).tk.length/\Jj C c<(C.tok w c x).tk.length/\(∀ i,i<(C.tok w c x).tk.length->i=Jj C c\/i<C.tk.length) /\
  (∀ i k,nth C.tk i=some k->∃ k',nth (C.tok w c x).tk i=some k'/\k<=k'/\(k'=k->i≠Jj C c)):=by
 cases c with
 | unk=>simp [Be] at h
 | tight =>
  exact Ya02
 | nilc =>
  exact Ya02
 | nl=>simp [Be] at h
 | nn=>simp [Be] at h
 | tok id ep s =>
  simp only [Be,Ch,beq_iff_eq] at h;refine ⟨rfl,rfl,rfl,rfl,rfl,rfl,rfl,by simp [Cx.tok,Am],by simpa [Cx.tok,Jj,Am] using Bn h.2,fun i hi=>by simp [Cx.tok,Am] at hi; exact .inr hi,fun i k hk=>?_⟩;by_cases hi:id=i
  ·subst hi;rw [h.2] at hk; simp only [Ba] at hk; subst hk;refine ⟨ep+1,?_,aA,fun h=>aA⟩;exact Ya1m
  ·refine ⟨k,?_,Ce _,fun _=>by simp [Jj]; omega⟩;simp only [Cx.tok];rw [Ae hi]; exact hk
theorem Kr {C:Cx} {w:World} {c:Cap} {b lo hi sz len cap:Nat} {a:Option Addr} (h:Be C.tk c sz=true)
  (hc:cap=len\/∃ cs t,a=some ⟨b,0,none⟩/\(b,lo,hi)=(b,len*sz,cap*sz)/\w.heap[b]?=some (.cells cs t (0,0))/\cap*sz<=cs.size):CapR (C.tok w c (b,lo,hi)) (Az C.tk c sz) a len cap:=by
 cases c with
 | unk=>simp [Be] at h
 | tight =>
  exact Ya4c
 | nilc =>
  exact Ya4c
 | nl=>simp [Be] at h
 | nn=>simp [Be] at h
 | tok id ep s =>
  simp only [Be,Ch,beq_iff_eq] at h;refine ⟨ep+1,?_,Ce _,fun _=>?_⟩
  ·exact Ya1m
  ·exact Ya0n
def M6 (C:Cx) (c:Cap) (b lo hi:Nat):Prop:=hi<=lo\/C.w.heap.size<=b\/(∃ id ep s,c=.tok id ep s/\(C.ψ id).1=b/\(C.ψ id).2.1<=lo/\hi<=(C.ψ id).2.2)
theorem Tt {C:Cx} {w:World} {c:Cap} {b lo hi sz:Nat} (h:Be C.tk c sz=true) (hn:M6 C c b lo hi) {x o:Nat} (hm:(C.tok w c (b,lo,hi)).Mut x o):C.Mut x o\/(x=b/\lo<=o/\o<hi/\C.w.heap.size<=b):=by
 obtain ⟨e1,e2,e3,e4,e5,e6,e7,e8,e9,e10,e11⟩:=Nh (w:=w) (x:=(b,lo,hi)) h;rcases hm with ⟨i,ar,hx⟩|⟨i,ar,h1,h2,h3⟩
 ·exact .inl (.inl ⟨i,by rwa [e4] at ar,by rwa [e3] at hx⟩)
 ·rw [e7] at h1 h2 h3;dsimp only at h1 h2 h3;by_cases hid:i=Jj C c
  ·rw [if_pos hid] at h1 h2 h3;simp only at h1 h2 h3;rcases hn with hn|hn|⟨id,ep,s,rfl,g1,g2,g3⟩
   ·omega
   ·exact .inr ⟨h1.symm,h2,h3,hn⟩
   ·refine .inl (.inr ⟨id,?_,by rw [g1,h1],aA,aA⟩);simp only [Be,Ch,beq_iff_eq] at h;exact Bn h.2
  ·rw [if_neg hid] at h1 h2 h3;refine .inl (.inr ⟨i,?_,h1,h2,h3⟩);rcases e10 i ar with hh|hh
   ·exact absurd hh hid
   ·exact hh
theorem Le.of_tok {C:Cx} {w:World} {c:Cap} {b lo hi sz:Nat} (h:Be C.tk c sz=true) (hn:M6 C c b lo hi) (hos:w.os=C.w.os) (xe:w.tape=C.w.tape) (ky:w.output=C.w.output) (xf:C.w.heap.size<=w.heap.size)
  (hcell:∀ x o v,C.w.cell? ⟨x,o,none⟩=some v->¬ C.Mut x o->w.cell? ⟨x,o,none⟩=some v) (xg:∀ x,x<C.w.heap.size->(∀ o,¬ C.Mut x o)->w.heap[x]?=C.w.heap[x]?)
  (r6:∀ (b:Nat) (cs:Array Value) (t:TypeId) (fz:Nat × Nat),C.w.heap[b]?=some (jR cs t fz)->∃ cs':Array Value,w.heap[b]?=some (jR cs' t fz)/\cs'.size=cs.size):Le C (C.tok w c (b,lo,hi)):=by
 obtain ⟨e1,e2,e3,e4,e5,e6,e7,e8,e9,e10,e11⟩:=Nh (w:=w) (x:=(b,lo,hi)) h;refine ⟨by rw [e1,hos],by rw [e1,xe],by rw [e1,ky],by rw [e1]; exact xf,e2,by rw [e5]; exact Ce _,fun x o hlt hm=>?_,by rw [e1]; exact hcell,by rw [e1]; exact xg,by rw [e1]; exact r6,fun i x hx _=>⟨x,by rwa [e4] at hx,rfl,by rw [e3]⟩,fun i k hk=>?_⟩
 ·rcases Tt h hn hm with h'|⟨rfl,-,-,h'⟩
  ·exact h'
  ·omega
 ·obtain ⟨k',g1,g2,g3⟩:=e11 i k hk;exact ⟨k',g1,g2,fun e=>by rw [e7]; simp only; rw [if_neg (g3 e)]⟩
theorem SR.of_tok [Globs] {C:Cx} (aq:SR C) {w:World} {c:Cap} {b lo hi sz:Nat} (h:Be C.tk c sz=true) (hn:M6 C c b lo hi) (hlt:lo<hi->b<w.heap.size) (hle:Le C (C.tok w c (b,lo,hi)))
  (xh:∀ i,i<C.S.length->w.heap[C.φ i]?=C.w.heap[C.φ i]?):SR (C.tok w c (b,lo,hi)):=by
 obtain ⟨e1,e2,e3,e4,e5,e6,e7,e8,e9,e10,e11⟩:=Nh (w:=w) (x:=(b,lo,hi)) h;have old:∀ i,i<(C.tok w c (b,lo,hi)).tk.length->i≠Jj C c->i<C.tk.length:=fun i ar hne=>(e10 i ar).resolve_left hne;have key:∀ o,lo<=o->o<hi->(∀ j,j<C.tk.length->j≠Jj C c->(C.ψ j).1=b->(C.ψ j).2.1<=o->o<(C.ψ j).2.2->False)/\(∀ i,i<C.S.length->C.φ i=b->False)/\¬ C.av b o:=by
  intro o h1 h2;rcases hn with hn|hn|⟨id,ep,s,rfl,g1,g2,g3⟩
  ·omega
  ·refine ⟨fun j hj _ hb k1 k2=>?_,fun i ar hb=>?_,fun ha=>?_⟩
   ·have:=aq.tlt j o hj k1 k2; omega
   ·have:=P8 aq ar; omega
   ·have:=aq.avlt b o ha; omega
  ·simp only [Be,Ch,beq_iff_eq] at h;have hid:=Bn h.2;refine ⟨fun j hj hne hb k1 k2=>hne (aq.tok j id o hj hid (by rw [hb,g1]) k1 k2 aA aA),fun i ar hb=>aq.apart i id o ar hid (by rw [hb,g1]) aA aA,aq.own b o (.inr ⟨id,hid,g1,aA,aA⟩)⟩
 refine ⟨fun i x hx=>?_,fun i j ar hj hh=>?_,fun i j o ar hj hh h1 h2 h3 h4=>?_,fun i j o ar hj hh h1 h2=>?_,fun x o hm=>?_,fun x o ha=>?_,fun i o ar h1 h2=>?_,Qw aq hle⟩
 ·rw [e4] at hx;obtain ⟨g1,arr,t,g2,vs',r',vr,g3⟩:=aq.ent i x hx;refine ⟨by rw [e5]; exact g1,arr,t,by rw [e1,e3,xh i (Bn hx)]; exact g2,vs',r',vr,VRs.mono hle _ _ g3⟩
 ·rw [e4] at ar hj; rw [e3] at hh;exact aq.ne i j ar hj hh
 ·rw [e7] at hh h1 h2 h3 h4;simp only at hh h1 h2 h3 h4;by_cases hit:i=Jj C c <;> by_cases xi:j=Jj C c
  ·rw [hit,xi]
  ·rw [if_pos hit] at hh h1 h2; rw [if_neg xi] at hh h3 h4;simp only at hh h1 h2;exact ((key o h1 h2).1 j (old j hj xi) xi hh.symm h3 h4).elim
  ·rw [if_neg hit] at hh h1 h2; rw [if_pos xi] at hh h3 h4;simp only at hh h3 h4;exact ((key o h3 h4).1 i (old i ar hit) hit hh h1 h2).elim
  ·rw [if_neg hit] at hh h1 h2; rw [if_neg xi] at hh h3 h4;exact aq.tok i j o (old i ar hit) (old j hj xi) hh h1 h2 h3 h4
 ·rw [e4] at ar; rw [e3,e7] at hh; rw [e7] at h1 h2;simp only at hh h1 h2;by_cases xi:j=Jj C c
  ·rw [if_pos xi] at hh h1 h2;simp only at hh h1 h2;exact (key o h1 h2).2.1 i ar hh
  ·rw [if_neg xi] at hh h1 h2;exact aq.apart i j o ar (old j hj xi) hh h1 h2
 ·rw [e2];rcases Tt h hn hm with h'|⟨rfl,h1,h2,h3⟩
  ·exact aq.own x o h'
  ·exact (key o h1 h2).2.2
 ·rw [e2] at ha; rw [e1];have:=aq.avlt x o ha;have:=hle.size;rw [e1] at this;omega
 ·rw [e7] at h1 h2 ⊢; rw [e1];simp only at h1 h2 ⊢;by_cases hit:i=Jj C c
  ·rw [if_pos hit] at h1 h2 ⊢;exact hlt (by simp only at h1 h2; omega)
  ·rw [if_neg hit] at h1 h2 ⊢;have h3:=aq.tlt i o (old i ar hit) h1 h2;have h4:=hle.size;rw [e1] at h4;omega
theorem Xs {t:TypeId} {sz:Nat} (h:apT P t=some sz):∃ e i z,P.underlying t=some (.slice e)/\P.info? e=some i/\i.zero=some z/\i.size=sz/\0<sz/\z.cells.size=sz/\i.bytes<=1048576/\(sz=3->i.bytes<=40):=by
 unfold apT at h;split at h
 ·rename_i e he;split at h
  ·rename_i s z i hs hz hi;split at h
   ·rename_i hh;simp only [Ba] at h; subst h;simp only [szOf,hi,C7,Ba] at hs;simp only [A2,hi,Oj,Cc] at hz;obtain ⟨v,hv,rfl⟩:=hz;exact ⟨e,i,v,D3 he,hi,hv,hs,aA,by simpa using hh.1,hh.2.1,fun e=>hh.2.2 aA⟩
   ·simp at h
  ·simp at h
 ·simp at h
theorem Pw {sz:Nat} : ∀ {es:List (List AV)},Db sz es=true->(∀ e ∈ es,e.length=sz):=by
 intro es h e he;simp only [Db,C9,beq_iff_eq] at h;exact h e he
def Src (C:Cx) (ys:List (List AV)) (vy:Value):Prop:=∃ a m cap,vy=.slice a m cap/\ys.length=m/\(m=0\/∃ b o news,a=some ⟨b,o,none⟩/\PRs C.w C.Avoid ys.flatten news/\∀ (j:Nat) u,news[j]?=some u->C.w.cell? ⟨b,o+j,none⟩=some u)
theorem Afh {sz:Nat} : ∀ {l:List (List AV)},(∀ e ∈ l,e.length=sz)->l.flatten.length=l.length*sz
 | [],_=>by simp
 | e :: l,h=>by
  rw [F1,Cm,h e (by simp),Afh (l:=l) fun x hx=>h x bN,Ci,I9]; omega
theorem Zx [Globs] {C:Cx} (aq:SR C) {t ty:TypeId} {x y av:AV} {vx vy:Value} {tk':List Nat} {ys0:List (List AV)} {c20:Cap} (hx:VR C x vx) (f9:y=.frz ys0 c20) (a0v:Src C ys0 vy) (h:apA P t x y C.tk=some (av,tk')) :
  ∃ v C',(O8 #[t,t] ty #[vx,vy]).run P C.w=.ok v C'.w/\Le C C'/\SR C'/\C'.S=C.S/\C'.tk=tk'/\C'.n=C.n/\VR C' av v:=by
 unfold apA at h;split at h
 ·rename_i es c ys c2 sz hT;simp only [AV.frz.injEq] at f9;obtain ⟨rfl,rfl⟩:=f9;split at h
  ·rename_i hh;obtain ⟨ab,cr,hry,b7⟩:=hh;simp only [Ba,Cf] at h;obtain ⟨rfl,rfl⟩:=h;obtain ⟨e,i,z,hu,hi,hz,hsz,hpos,uz,hby,a2b⟩:=Xs hT;simp only [VR] at hx;obtain ⟨a,len,cap,rfl,hlen,hcap,hC,hE⟩:=hx;obtain ⟨a2,m,cap2,rfl,hm,hY⟩:=a0v;simp only [Ams,Ib,Ch,beq_iff_eq,decide_eq_true_eq] at b7;have gg:∃ olds:List Value,olds.length=len*sz/\PRs C.w C.Avoid es.flatten olds/\(olds=[]\/∃ b o,a=some ⟨b,o,none⟩/\Lie C.w C.Avoid b o olds):=by
    rcases hE with rfl|⟨b,o,s',rfl,hr⟩
    ·exact ⟨[],by simp at hlen; simp [<- hlen],by simp [PRs],.inl rfl⟩
    ·by_cases hne:es=[]
     ·subst hne; exact ⟨[],by simp at hlen; simp [<- hlen],by simp [PRs],.inl rfl⟩
     ·have:=N4 hr cr hne;subst this;obtain ⟨l,g1,g2,g3⟩:=Hd hr;exact ⟨l,by rw [g1,hlen],g2,.inr ⟨b,o,rfl,g3⟩⟩
   obtain ⟨olds,ii,j5,ho3⟩:=gg;by_cases dc:m=0
   ·subst dc;have hys:ys=[]:=F2 hm;subst hys;have hrun:=Vs (P:=P) C.w t e i ty hu hi a a2 len cap cap2 hcap;obtain ⟨b,lo,ar,hn,hc⟩:∃ b lo ar,M6 C c b lo ar/\(lo<ar->b<C.w.heap.size)/\(cap=len\/∃ cs t,a=some ⟨b,0,none⟩/\(b,lo,ar)=(b,len*sz,cap*sz)/\C.w.heap[b]?=some (.cells cs t (0,0))/\cap*sz<=cs.size):=by
     cases c with
     | unk=>simp [Be] at ab
     | tight=>exact ⟨0,0,0,.inl (Ce _),aA,.inl hC⟩
     | nilc=>exact ⟨0,0,0,.inl (Ce _),aA,.inl hC.2⟩
     | nl=>simp [Be] at ab
     | nn=>simp [Be] at ab
     | tok id ep s =>
      simp only [Be,Ch,beq_iff_eq] at ab;obtain ⟨rfl,ab⟩:=ab;obtain ⟨k,h1,h2,h3⟩:=hC;rw [ab] at h1; simp only [Ba] at h1; subst h1;rcases h3 rfl with h3|⟨b,cs,t',g1,g2,g3,g4⟩
      ·exact ⟨0,0,0,.inl (Ce _),aA,.inl h3⟩
      ·exact ⟨b,len*s,cap*s,.inr (.inr ⟨id,ep,s,rfl,by rw [g2],by rw [g2]; exact Ce _,by rw [g2]; exact Ce _⟩),fun _=>(Cj.1 g3).1,.inr ⟨cs,t',g1,rfl,g3,g4⟩⟩
    have hle:Le C (C.tok C.w c (b,lo,ar)):=Le.of_tok ab hn rfl rfl rfl (Ce _) (fun _ _ _ h _=>h) (fun _ _ _=>rfl) (fun _ cs _ _ h=>⟨cs,h,rfl⟩);obtain ⟨e1,e2,e3,e4,e5,e6,-⟩:=Nh (w:=C.w) (x:=(b,lo,ar)) ab;refine ⟨.slice a len cap,C.tok C.w c (b,lo,ar),Za5x,hle,SR.of_tok aq ab hn hc.1 hle (fun _ _=>rfl),e4,e6,e5,?_⟩;simp only [VR,Fo];refine ⟨a,len,cap,rfl,hlen,hcap,Kr ab hc.2,hE.imp id ?_⟩;rintro ⟨b,o,s',rfl,hr⟩;exact ⟨b,o,s',rfl,B4.stays hle.stays _ _ _ _ hr⟩
   ·obtain ⟨b2,o2,news,rfl,bo,a0b⟩:=hY.resolve_left dc;have ci:news.length=m*sz:=by rw [<- Mg bo,Afh (Pw hry),hm]
    have cu:=Xf bo;have jb:∀ (j:Nat) u,news[j]?=some u->C.w.cell? (kB ⟨b2,o2,none⟩ j)=some u:=fun j u hj=>by rw [Dz]; exact a0b j u hj
    have jq:∀ e ∈ es++ys,e.length=sz:=fun x hx=>by
     rcases C3.1 hx with hx|hx
     ·exact Pw cr x hx
     ·exact Pw hry x hx
    by_cases fj:(∃ id ep s b cs t',c=.tok id ep s/\nth C.tk id=some ep/\s=sz/\a=some ⟨b,0,none⟩/\C.ψ id=(b,len*sz,cap*sz)/\C.w.heap[b]?=some (.cells cs t' (0,0))/\cap*sz<=cs.size)/\len+m<=cap
    ·obtain ⟨⟨id,ep,s,b,arr,t',rfl,hid,rfl,rfl,hψ,hb,ey⟩,jc⟩:=fj;have jr:(len+m)*s<=cap*s:=F6 _ jc;have o9:(len+m)*s=len*s+m*s:=Sx _ _ _;have hms:0<m*s:=Nat.mul_pos aA hpos;have hrun:=K7 (P:=P) C.w t ty e i hu hi b len cap t' arr hb ⟨b2,o2,none⟩ m cap2 news dL jb cu jc (by rw [hsz,ci]; omega);rw [hsz] at hrun;generalize hA:(arr.toList.take (len*s)++news++arr.toList.drop (len*s+news.length)).toArray=arr' at hrun;have lx:arr'.size=arr.size:=by rw [<- hA]; simp; omega
     have a0w:∀ o,(o<len*s\/(len+m)*s<=o)->arr'[o]?=arr[o]?:=by
      intro o ho;rw [<- hA];simp only [iA];rcases ho with ho|ho
      ·rw [Cy,Cv aC,I5 ho]; simp
      ·rw [Fh aC,S7,<- Array.getElem?_toList];congr 1;simp;omega
     have hlt:b<C.w.heap.size:=(Cj.1 hb).1;have dt:=Bn hid;have r7:∀ o,len*s<=o->o<cap*s->C.Mut b o:=fun o h1 h2=>.inr ⟨id,dt,by rw [hψ],Za6f,by rw [hψ]; exact h2⟩;have hn:M6 C (.tok id ep s) b ((len+m)*s) (cap*s):=.inr (.inr ⟨id,ep,s,rfl,by rw [hψ],fA,by rw [hψ]; exact Ce _⟩);have hle:Le C (C.tok (C.w.setRow b arr') (.tok id ep s) (b,(len+m)*s,cap*s)):=by
      refine Le.of_tok ab hn rfl rfl rfl (by simp) ?_ ?_ ?_
      ·intro x o v hv gh;by_cases r8:x=b
       ·subst r8;have:o<len*s\/(len+m)*s<=o:=by
         rcases Ig o (len*s) with h|h
         ·exact .inl h
         ·right;rcases Ig o (cap*s) with h'|h'
          ·exact absurd (r7 o h h') gh
          ·omega
        have h1:=setRow_heap C.w x arr arr' t' (0,0) hb;simp only [I7,hb] at hv;simp only [I7,h1,a0w o this];exact hv
       ·simpa [I7,setRow_other C.w b x arr' r8] using hv
      ·intro x _ gh;refine setRow_other C.w b x arr' fun h=>gh (len*s) (h ▸ r7 _ (Ce _) aA)
      ·intro x d t'' fz hd;by_cases r8:x=b
       ·subst r8;rw [hb] at hd;simp only [Ba,kG] at hd;obtain ⟨rfl,rfl,rfl⟩:=hd;exact ⟨arr',setRow_heap _ _ _ _ _ _ hb,lx⟩
       ·exact ⟨d,by rw [setRow_other _ _ _ _ r8]; exact hd,rfl⟩
     obtain ⟨e1,e2,e3,e4,e5,e6,e7,e8,e9,e10,e11⟩:=Nh (w:=C.w.setRow b arr') (x:=(b,(len+m)*s,cap*s)) ab;have r9:=SR.of_tok aq ab hn (fun _=>aN) hle (fun i hi=>setRow_other _ _ _ _ fun h=>aq.apart i id (len*s) hi dt (by rw [hψ]; exact h) (by rw [hψ]; exact Ce _) fA);refine ⟨.slice (some ⟨b,0,none⟩) (len+m) cap,_,Za5x,hle,r9,e4,e6,e5,?_⟩;have wu:(C.w.setRow b arr').heap[b]?=some (.cells arr' t' (0,0)):=setRow_heap _ _ _ _ _ _ hb;simp only [VR];refine ⟨_,len+m,cap,rfl,aC,jc,Kr ab (.inr ⟨arr',t',rfl,rfl,wu,aA⟩),.inr ⟨b,0,s,rfl,?_⟩⟩;have aj:=hle.stays;refine G5 (l:=olds++news) jq Za18 (K5 fun j v hj=>?_);rw [Fm];rcases Ig j olds.length with hjo|hjo
     ·rw [Cv hjo] at hj;rcases ho3 with rfl|⟨b',o',ha,hl⟩
      ·simp at hjo
      ·simp only [Ba,Addr.mk.injEq,and_true] at ha;obtain ⟨rfl,rfl⟩:=ha;have:=K4 (hl.stays aj) j v hj;exact Ya1y
     ·rw [Fh hjo] at hj;have hjn:=(F5.1 hj).1;have h1:len*s<=j:=aA
      have h2:j<(len+m)*s:=aA
      constructor
      ·rw [e1];simp only [I7,wu];have:arr'[j]?=some v:=by
        rw [<- hA];simp only [iA];rw [Cv aC,Fh aC];rw [<- hj]; congr 1; simp; omega
       exact Ya1y
      ·rintro (eg|⟨k,hk,hφ⟩|⟨k,hk,g1,g2,g3⟩)
       ·rw [e2] at eg;exact aq.own b j (r7 j h1 aA) eg
       ·rw [e4] at hk; rw [e3] at hφ;exact aq.apart k id j hk dt (by rw [hψ]; exact hφ) Za6f fA
       ·rw [e7] at g1 g2 g3;dsimp only at g1 g2 g3;by_cases pe:k=id
        ·rw [if_pos (show k=Jj C (.tok id ep s) from pe)] at g1 g2 g3;simp only at g2; omega
        ·rw [if_neg (show ¬ k=Jj C (.tok id ep s) from pe)] at g1 g2 g3;have xj:=(e10 k hk).resolve_left pe;exact pe (aq.tok k id j xj dt (by rw [hψ]; exact g1) g2 g3 Za6f fA)
    ·have iu:cap<len+m:=by
      rcases Ig cap (len+m) with h|h
      ·exact h
      ·exfalso;cases c with
       | unk=>simp [Be] at ab
       | tight=>have:cap=len:=hC; omega
       | nilc=>have:cap=len:=hC.2; omega
       | nl=>simp [Be] at ab
       | nn=>simp [Be] at ab
       | tok id ep s =>
        simp only [Be,Ch,beq_iff_eq] at ab;obtain ⟨rfl,ab⟩:=ab;obtain ⟨k,h1,h2,h3⟩:=hC;rw [ab] at h1; simp only [Ba] at h1; subst h1;rcases h3 rfl with h3|⟨b,cs,t',g1,g2,g3,g4⟩
        ·omega
        ·exact fj ⟨⟨id,ep,s,b,cs,t',rfl,ab,rfl,g1,g2,g3,g4⟩,h⟩
     have jr:len*sz+m*sz=(len+m)*sz:=(Sx _ _ _).symm;have gi:(len+m)*i.bytes<=140737488355328:=by
      rcases b7 with b7|⟨h3,b7⟩
      ·have:(len+m)*i.bytes<=1048576*1048576:=O5 aA hby
       omega
      ·have:(len+m)*i.bytes<=3518437208883*40:=O5 aA (a2b h3);omega
     obtain ⟨ncap,zs,hrun,kv,hzl⟩:∃ ncap zs,(O8 #[t,t] ty #[.slice a len cap,.slice (some ⟨b2,o2,none⟩) m cap2]).run P C.w=.ok (.slice (some ⟨C.w.heap.size,0,none⟩) (len+m) ncap) (C.w.drew.alloc (.cells (olds++news++zs).toArray e))/\len+m<=ncap/\zs.length=(ncap - (len+m))*sz:=by
      cases a with
      | none =>
       have xk:len=0:=by
        rcases ho3 with h|⟨b,o,h,-⟩
        ·rw [h] at ii;simp only [Cu] at ii;rcases Nat.mul_eq_zero.1 ii.symm with h|h
         ·exact h
         ·omega
        ·simp at h
       have xl:cap=0:=by
        cases c with
        | unk=>simp [Be] at ab
        | tight=>have:cap=len:=hC; omega
        | nilc=>have:cap=len:=hC.2; omega
        | nl=>simp [Be] at ab
        | nn=>simp [Be] at ab
        | tok id ep s =>
         simp only [Be,Ch,beq_iff_eq] at ab;obtain ⟨k,h1,h2,h3⟩:=hC;rw [ab.2] at h1; simp only [Ba] at h1; subst h1;rcases h3 rfl with h3|⟨b,cs,t',g1,-⟩
         ·omega
         ·simp at g1
       subst xk xl;have ho:olds=[]:=F2 (by simpa using ii);subst ho;have:=run_append_nil (P:=P) C.w t ty e i z hu hi hz ⟨b2,o2,none⟩ m cap2 news dL jb aA aA (by simp only [Fm] at gi; omega);refine ⟨grownCap C.w m 0 e,(Oo z.cells (grownCap C.w m 0 e - m)).toList,?_,by have:=grownCap_ge C.w m 0 e; omega,by simp [size_zeroCells,uz]⟩;rw [this];simp only [Fm,Cr];congr 3;apply jU; simp
      | some ad =>
       obtain ⟨b,o,hab,hcells⟩:∃ b o,(olds=[]\/ad=⟨b,o,none⟩)/\∀ (j:Nat) v,olds[j]?=some v->C.w.cell? (ad.add j)=some v:=by
        rcases ho3 with rfl|⟨b,o,h,hl⟩
        ·exact ⟨0,0,.inl rfl,by simp⟩
        ·simp only [Ba] at h; subst h;exact ⟨b,o,.inr rfl,fun j v hj=>by rw [Dz]; exact (K4 hl j v hj).1⟩
       have:=run_append_grow (P:=P) C.w t ty e i z hu hi hz ad len cap olds (by rw [hsz]; exact ii) hcells ⟨b2,o2,none⟩ m cap2 news dL jb iu aA (growslice_fits iu gi);refine ⟨grownCap C.w (len+m) cap e,(Oo z.cells (grownCap C.w (len+m) cap e - (len+m))).toList,?_,grownCap_ge C.w (len+m) cap e,by simp [size_zeroCells,uz]⟩;rw [this];congr 3;apply jU; simp
     have hbel:Below C.w.heap.size C.w (C.w.drew.alloc (.cells (olds++news++zs).toArray e)):=((Fw _ _).drew).alloc (by simp) _;have qk:(C.w.drew.alloc (.cells (olds++news++zs).toArray e)).heap[C.w.heap.size]?=some (.cells (olds++news++zs).toArray e (0,0)):=Ax C.w.drew _;have hn:M6 C c C.w.heap.size ((len+m)*sz) (ncap*sz):=.inr (.inl (Ce _));have hle:Le C (C.tok (C.w.drew.alloc (.cells (olds++news++zs).toArray e)) c (C.w.heap.size,(len+m)*sz,ncap*sz)) :=
      Le.of_tok ab hn hbel.os hbel.tape hbel.output hbel.size (fun b o v hv _=>Za4f) (fun b hb _=>hbel.block b hb) (fun b cs t fz hb=>⟨cs,Dr hbel hb,rfl⟩)
     have r9:=SR.of_tok aq ab hn (fun _=>(Cj.1 qk).1) hle (fun i hi=>hbel.block _ (P8 aq hi));obtain ⟨e1,e2,e3,e4,e5,e6,e7,e8,e9,e10,e11⟩:=Nh (w:=C.w.drew.alloc (.cells (olds++news++zs).toArray e)) (x:=(C.w.heap.size,(len+m)*sz,ncap*sz)) ab;refine ⟨_,_,Za5x,hle,r9,e4,e6,e5,?_⟩;have hzz:(ncap - (len+m))*sz=ncap*sz - (len+m)*sz:=Nat.sub_mul _ _ _;have hnn:(len+m)*sz<=ncap*sz:=F6 _ kv;simp only [VR];refine ⟨_,len+m,ncap,rfl,aC,kv,Kr ab (.inr ⟨_,e,rfl,rfl,qk,aC⟩),.inr ⟨C.w.heap.size,0,sz,rfl,?_⟩⟩;have aj:=hle.stays;refine G5 (l:=olds++news) jq Za18 (K5 fun j v hj=>?_);rw [Fm];have jd:j<(len+m)*sz:=by
      exact Ya1p
     constructor
     ·rw [e1];simp only [I7,qk];have a0x:j<(olds++news).length:=(F5.1 hj).1;have:(olds++news++zs)[j]?=some v:=by rw [Cv a0x]; exact hj
      exact Ya1y
     ·rintro (eg|fg)
      ·rw [e2] at eg;have:=aq.avlt _ _ eg; omega
      ·rcases Tt ab hn fg with h|⟨-,h1,h2,-⟩
       ·exact aq.fresh (Ce _) (.inr h)
       ·omega
  ·simp at h
 ·simp at h
theorem Ajm [Globs] {C:Cx} (aq:SR C) {t ty:TypeId} {x y av:AV} {vx vy:Value} {tk':List Nat} (hx:VR C x vx) (hy:VR C y vy) (h:apA P t x y C.tk=some (av,tk')) :
  ∃ v C',(O8 #[t,t] ty #[vx,vy]).run P C.w=.ok v C'.w/\Le C C'/\SR C'/\C'.S=C.S/\C'.tk=tk'/\C'.n=C.n/\VR C' av v:=by
 have h0:=h;unfold apA at h;split at h
 ·rename_i es c ys c2 sz hT;refine Zx aq hx rfl ?_ h0;simp only [VR] at hy;obtain ⟨a,m,cap,rfl,hm,-,-,hY⟩:=hy;refine ⟨a,m,cap,rfl,hm,?_⟩;rcases hY with rfl|⟨b,o,s',rfl,hr⟩
  ·left; simpa using hm.symm
  ·right;obtain ⟨l,g1,g2,g3⟩:=Hd hr;exact ⟨b,o,l,rfl,g2,fun j u hj=>(K4 g3 j u hj).1⟩
 ·simp at h
theorem Yz {w:World} {e:TypeId} {z:List AV} {s m:Nat} (hz:A2 P e=some z) (uz:z.length=s) (j6:0<s) :
  ∃ (zv:Value) (arr:Array Value),(zeroValue e).run P w=.ok zv w/\arr.toList.map cst1=(Cg m z).flatten/\(m*s=0->arr=#[])/\(m*s≠0->arr=(iE (m*s)).map fun x=>zv.cells[x % zv.cells.size]!):=by
 obtain ⟨zv,hz1,rfl⟩:=Kl (w:=w) hz;have hl:zv.cells.toList.length=s:=by simpa using uz
 have p9:zv.cells.size=s:=cD
 by_cases hm:m*s=0
 ·have dc:m=0:=by
   rcases Nat.mul_eq_zero.1 hm with h|h
   ·exact h
   ·omega
  exact ⟨zv,#[],hz1,by simp [dc],fun _=>rfl,fun h=>absurd hm h⟩
 ·refine ⟨zv,(iE (m*s)).map fun x=>zv.cells[x % zv.cells.size]!,hz1,?_,fun h=>absurd h hm,fun _=>rfl⟩;have:=Vi zv.cells.toList s hl j6 m;have e1:((iE (m*s)).map (zv.cells[· % zv.cells.size]!)).toList=(Cg m zv.cells.toList).flatten:=by
   rw [<- this];simp [p9,Array.toList_range];intro a _; rw [getElem!_def]; cases zv.cells[a % s]? <;> rfl
  rw [e1,List.map_flatten,kU]
theorem Al0 {C:Cx} {t:TypeId} {l c:AV} {vl vc:Value} {n sz:Nat} {cs:List AV} (hl:VR C l vl) (hc:VR C c vc) (h:mkA P t l c=some (n,sz,cs)) :
  ∃ (e:TypeId) (m:Nat) (arr:Array Value),(Instr.makeSlice t vl vc).run P C.w=.ok (.slice (some ⟨C.w.heap.size,0,none⟩) n m) (C.w.alloc (.cells arr e))/\arr.toList.map cst1=cs/\n<=m/\cs.length=m*sz/\intN l=some n:=by
 unfold mkA mkB at h;split at h
 ·rename_i l' c' sz' z b h1 h2 h3 h4 h5;split at h
  ·rename_i hh;simp only [Ba,Cf] at h;obtain ⟨rfl,rfl,rfl⟩:=h;obtain ⟨g1,g2,g3,g4⟩:=hh;cases he:Bc P t with
   | none=>rw [he] at h3; simp at h3
   | some e =>
    rw [he] at h3 h4 h5;simp only [Oj] at h3 h4 h5;obtain ⟨kl,rfl⟩:=Ep h1 hl;obtain ⟨kc,rfl⟩:=Ep h2 hc;obtain ⟨zv,arr,r1,r2,r3,r4⟩:=Yz (w:=C.w) (m:=c') h4 g4 aA;refine ⟨e,c',arr,?_,r2,g1,?_,h1⟩
    ·simp only [Hq,Cc] at h5;obtain ⟨i,hi,rfl⟩:=h5;have w1:Cd.wrap (l':Int)=l':=Go.IntWalk.i64_in _ aA;have w2:Cd.wrap (c':Int)=c':=Go.IntWalk.i64_in _ aA;have hb:(i.bytes:Int)*(c':Int)<=2 ^ 40:=by
      have:i.bytes*c'<=1048576*1048576:=O5 g3 g2;have e:((i.bytes*c':Nat):Int)=(i.bytes:Int)*c':=by simp
      rw [<- e]; omega
     have zu:c'*i.bytes<=2 ^ 40:=by
       rw [Iv]; have:((i.bytes*c':Nat):Int)=(i.bytes:Int)*c':=by simp
       omega
     have n1:¬ ((c':Int)<0\/(i.bytes:Int)*c' > 2 ^ 48):=aA
     have n2:¬ ((l':Int)<0):=aA
     have n3:¬ ((l':Int) > (c':Int)):=aA
     have n4:¬ (c'*i.bytes > roomBytes):=by unfold roomBytes; omega
     have b7:(askRoom (c'*i.bytes)).run P C.w=.ok () C.w:=by simp [askRoom,n4]
     simp [Instr.makeSlice,F0,Bq (D3 he),asInt,asIntOf,typeInfo,w1,w2,hi];rw [if_neg aA];simp only [b7,Fs,E7 h3];by_cases hm:c'*(sz'+1)=0
     ·have e0:∀ f:Nat->Value,(iE 0).map f=#[]:=fun f=>by simp
      rw [if_pos hm,r3 hm,hm,e0];rfl
     ·rw [if_neg hm,r4 hm,r1];rfl
    ·have:∀ (m:Nat) (z:List AV),(Cg m z).flatten.length=m*z.length:=fun m z=>by simp
     rw [this,g4]
  ·simp at h
 ·simp at h
theorem Af4 {α:Type} : ∀ {l:List α} {i:Nat} {x:α},nth l i=some x->put l i x=l
 | _ :: _,0,_,h=>dG
 | _ :: l,i+1,_,h=>by simp only [nth] at h; simp only [put,Af4 h]
 | [],_,_,h=>bM
theorem Aig [Globs] {C:Cx} (aq:SR C) {sz n m:Nat} {s:AV} {vs:Value} {cs:List AV} (hs:VR C s vs) (hl:lenA s=some m) (gh:n<=m) (h:srcA sz n s C.S=some cs) :
  ∃ news:List Value,(kT sz n vs).run P C.w=.ok news.toArray C.w/\VRs C cs news/\news.length=n*sz:=by
 unfold srcA at h;split at h
 ·rename_i es c;split at h
  ·rename_i hr;simp only [Ba] at h; subst h;simp only [lenA,Ba] at hl;simp only [VR] at hs;obtain ⟨a,len,cap,rfl,hlen,-,-,hE⟩:=hs;by_cases hn:n=0
   ·subst hn;exact Ya1v
   ·rcases hE with rfl|⟨b,o,s',rfl,hp⟩
    ·simp at hl; omega
    ·have hne:es≠[]:=by rintro rfl; simp at hl; omega
     have:=N4 hp hr hne;subst this;obtain ⟨l,g1,g2,g3⟩:=Hd (Qp n hp);have oj:l.length=n*s':=by rw [g1,I1,show min n es.length=n by omega]
     refine ⟨l,?_,Kc g2,oj⟩;exact run_firstCells_some (P:=P) C.w s' n ⟨b,o,none⟩ len cap l oj (fun j v hj=>by rw [Dz]; exact (K4 g3 j v hj).1)
  ·simp at h
 ·rename_i id ep off len' sz';split at h
  ·rename_i hsz;subst hsz;split at h
   ·rename_i ce he;obtain ⟨e,h1,h2,rfl⟩:=Du he;simp only [lenA,Ba] at hl;subst hl;simp only [VR] at hs;obtain ⟨b,a,cap,rfl,hcap,ha,eh,hb⟩:=hs;obtain rfl:=(hb e h1 h2).1;obtain ⟨hlt,arr,t',h3,h4⟩:=aq.ent id e h1;obtain ⟨p,h4⟩:=entP h4;obtain ⟨h5,h6⟩:=Ko (Mj off h4) (by rw [iO]; exact Anc _ h);by_cases hn:n=0
    ·subst hn;rw [Om] at h;simp only [takeN,Ba] at h; subst h;exact Ya1v
    ·rcases ha with ha|rfl
     ·omega
     ·have oj:((arr.toList.drop off).take (n*sz)).length=n*sz:=by simp at h6 ⊢; omega
      refine ⟨(arr.toList.drop off).take (n*sz),?_,h5,oj⟩;refine run_firstCells_some (P:=P) C.w sz n ⟨C.φ id,off,none⟩ len' cap _ oj (fun j v hj=>?_);rw [Dz];have fh:j<n*sz:=by rw [<- oj]; exact (F5.1 hj).1
      exact Ya28
   ·simp at h
  ·simp at h
 ·simp at h
theorem Akh [Globs] {C:Cx} (aq:SR C) {t t' ty:TypeId} {d s:AV} {vd vs:Value} {n:Nat} {S':List Ent} (hd:VR C d vd) (hs:VR C s vs) (h:cpA P t d s C.S=some (n,S')) :
  ∃ C',(Builtin.copy_ #[t,t'] ty #[vd,vs]).run P C.w=.ok (.int .i64 (n:Int)) C'.w/\Le C C'/\SR C'/\C'.S=S'/\C'.tk=C.tk/\C'.n=C.n:=by
 unfold cpA at h;split at h
 ·rename_i id ep off len sz m hm;split at h
  ·rename_i hsz;split at h
   ·rename_i news cs0 a0v a20;split at h
    ·rename_i a2c;split at h
     ·rename_i cs' ho;simp only [Ba,Cf] at h;obtain ⟨rfl,rfl⟩:=h;obtain ⟨e,h1,h2,rfl⟩:=Du a20;obtain ⟨a2,cap2,rfl⟩:=Wz hs hm;obtain ⟨us,r1,r2,r3⟩:=Aig (P:=P) aq hs hm (Nat.min_le_left _ _) a0v;simp only [VR] at hd;obtain ⟨b,a,cap,rfl,hcap,ha,eh,hb⟩:=hd;obtain rfl:=(hb e h1 h2).1;obtain ⟨hlt,arr,tt,h3,h4⟩:=aq.ent id e h1;obtain ⟨p,h4⟩:=entP h4;obtain ⟨h5,h6⟩:=Kg (Apr p ho);have hl2:=Bb r2;have rz:=Bb h4;simp only [It] at rz;cases he:Bc P t with
      | none=>rw [he] at hsz; simp at hsz
      | some el =>
       rw [he] at hsz;simp only [Oj] at hsz;have a2d:Nat.min m len=min m len:=rfl;by_cases hn:min m len=0
       ·rw [hn] at r3;have hus:us=[]:=F2 aA;subst hus;have jp:news=[]:=F2 (by simpa using hl2);subst jp;have:cs'=e.cells:=by
         have:cs'++p=e.cells++p:=by rw [h5]; simp [puts]
         exact List.append_cancel_right this
        subst this;have a0c:put C.S id ⟨ep,e.cells⟩=C.S:=by subst h2; exact Af4 h1
        refine ⟨C,?_,Le.refl C,aq,a0c.symm,rfl,rfl⟩;rw [hn] at r1 ⊢;cases a <;> simp [Builtin.copy_,Bq (D3 he),kZ,a2d,hn,E7 hsz,r1,goInt,storeCells]
       ·have ha':a=some ⟨C.φ id,off,none⟩:=ha.resolve_left (by
         intro h0;rw [h0] at hn;exact hn (Nat.min_eq_right (Cl _)))
        subst ha';have ey:off+0+us.length<=arr.size:=aA
        have hrun:=run_storeCells_at P (C.φ id) off tt us 0 arr C.w h3 ey (fun v hv'=>Ps r2 a2c v hv');have xd:=Adz (us:=us) (l:=arr.toList) (o:=off) aC;have gf:VRs C (cs'++p) (arr.toList.take off++us++arr.toList.drop (off+us.length)):=by
         rw [<- xd,h5]; exact Mk h4 r2
        refine ⟨{ C with w:=C.w.setRow (C.φ id) (arr.toList.take off++us++arr.toList.drop (off+us.length)).toArray,S:=put C.S id ⟨ep,cs'⟩ },?_,Le.of_store aq h1 h2.symm h3 ?_,SR.of_store aq h1 h2.symm h3 ?_ (Aq9 (by simpa using gf)),rfl,rfl,rfl⟩
        ·simp only [Ik] at hrun;simp [Builtin.copy_,Bq (D3 he),kZ,a2d,E7 hsz,r1,goInt,hrun]
        ·exact Ya13
        ·exact Ya13
     ·simp at h
    ·simp at h
   ·simp at h
  ·simp at h
 ·simp at h
end
end
end Go.Proofs.YthelkgdmgihhiaaGreat
