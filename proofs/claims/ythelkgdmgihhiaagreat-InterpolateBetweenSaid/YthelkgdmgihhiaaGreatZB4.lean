/- Part 4. -/
import Derived.Test.YthelkgdmgihhiaaGreatZB3
import Derived.Lib.ConvBytes
import Derived.Lib.AtoiErrMem
import Derived.Below
open Array renaming getElem?_eq_some_iff->Cj,length_toList->Iv,range->gE,toList_inj->gH,toList_zipIdx->jO,foldl_toList->jX
open Bool renaming and_eq_true->Ci
open Go renaming sizeOf->kJ
open Go.Instr renaming fill->Sk,makeFunc->gF,buildSlice->iU
open Go.Made renaming depth->iD
open Go.Result renaming andThen_ok->Fj
open Go.RowKit.Below renaming refl->Fq,cell->kK
open Go.Sem renaming run_bind->Fv,run_pure->I1
open Go.Value renaming int->iH,oneCell'->iK
open Go.World renaming cell?->I7
open List renaming replicate->Cg,length_cons->Cm,map_cons->Cn,cons_append->Cp,length_append->Cs,map_nil->Ct,getElem?_append_left->Cu,nil_append->Cz,all_eq_true->C4,mem_cons->C6,flatten_cons->Ff,mem_map->Fg,getElem?_eq_some_iff->Fk,append_nil->Fp,getElem?_map->F1,map_append->F6,length_map->F8,take_succ_cons->F9,range->Ih,getElem?_eq_getElem->It,mem_replicate->Iu,replicate_succ->Iw,getElem?_take->I2,map_map->Ol,mem_flatten->Se,flatten_nil->Sg,replicate_succ'->jH,flatten_append->jP
open List.cons renaming injEq->gY
open Nat renaming le_refl->Cf,mul_le_mul_right->E5,zero_add->Fo,lt_of_lt_of_le->Ft,succ_mul->Oc,zero_mul->Oj,mod_eq_of_lt->Om
open Option renaming map_eq_some_iff->Cb,map_some->Cy,bind_eq_some_iff->Il,bind_some->Oo,isSome_iff_exists->Sw
open Option.some renaming injEq->A3
open Prod.mk renaming injEq->Ch
namespace Go.Proofs.YthelkgdmgihhiaaGreat
section
open Go.RowKit
section
variable {P:Program}
def Cx.at (C:Cx) (w:World):Cx:={ C with w:=w }
theorem Dl {w w':World} (h:Below w.heap.size w w') {b:Nat} {o:Obj} (hb:w.heap[b]?=some o):w'.heap[b]?=some o:=by
 rw [h.block b (Cj.1 hb).1]; exact hb
theorem Le.of_below {C:Cx} {w':World} (h:Below C.w.heap.size C.w w'):Le C (C.at w') :=
 ⟨h.os,h.tape,h.output,h.size,rfl,Cf _,fun _ _ _ m=>m,fun b o v hv _=>by rw [show (C.at w').w=w' from rfl,kK h (Gv hv)]; exact hv,fun b hb _=>h.block b hb,
  fun b cs t fz hb=>⟨cs,Dl h hb,rfl⟩,fun _ e' he _=>⟨e',he,rfl,rfl⟩,fun _ k hk=>⟨k,hk,Cf _,fun _=>rfl⟩⟩
theorem SR.of_below [Globs] {C:Cx} {w':World} (hs:SR C) (h:Below C.w.heap.size C.w w'):SR (C.at w'):=by
 have hle:=Le.of_below h;refine ⟨fun id e he=>?_,hs.ne,hs.tok,hs.apart,hs.own,fun b o ha=>Ft (hs.avlt b o ha) h.size,fun i o hi h1 h2=>Ft (hs.tlt i o hi h1 h2) h.size,Qe hs hle⟩;obtain ⟨h1,cs,t,h2,vs,r,h3,h4⟩:=hs.ent id e he;exact ⟨h1,cs,t,Dl h h2,vs,r,h3,VRs.mono hle _ _ h4⟩
def Gives (P:Program) (C:Cx) (ρ:Operand->Value) (o:Oper) (av:AV):Prop:=∃ v w',(execOp ρ o).run P C.w=.ok (.value v) w'/\Below C.w.heap.size C.w w'/\VR (C.at w') av v
theorem Gives.of_has {C:Cx} {ρ:Operand->Value} {o:Oper} {av:AV} {s:Sem Value} (h:Has P C s av) (he:execOp ρ o=(do pure (.value (<- s)))):Gives P C ρ o av:=by
 obtain ⟨v,h1,h2⟩:=h;exact ⟨v,C.w,by rw [he]; simp [h1],Fq _ _,h2⟩
theorem Kd {t:TypeId} {z:List AV} {w:World} (h:Av P t=some z):∃ v:Value,(zeroValue t).run P w=.ok v w/\z=v.cells.toList.map cst1:=by
 simp only [Av,Cb,Il] at h;obtain ⟨v,⟨i,h1,h2⟩,rfl⟩:=h;exact ⟨v,by simp [zeroValue,typeInfo,h1,h2],rfl⟩
theorem Ua {w:World} : ∀ {fs:List Field} {pl:List (Nat × Nat)},T9 P fs=some pl->(fs.mapM (m:=Sem) fun f=>do pure (f.offset,<- kJ f.type)).run P w=.ok pl w
 | [],_,h=>by simp only [T9,A3] at h; subst h; simp
 | f :: fs,_,h=>by
  simp only [T9] at h;split at h
  ·rename_i s l h1 h2;simp only [A3] at h; subst h;have ih:=Ua (w:=w) h2;rw [List.mapM_cons];simp only [Fv,E2 h1,Fj,I1,ih]
  ·simp at h
theorem Adr {C:Cx} {ρA:Operand->AV} {ρ:Operand->Value} (hρ:∀ x,VR C (ρA x) (ρ x)) {t:TypeId} {ps:Array (Nat × Operand)} {z:List AV} {pl:List (Nat × Nat)} {av:AV} (hz:Av P t=some z) (hp:fieldsOf P t=some pl)
  (h:(fillA pl z (ps.toList.map fun (i,x)=>(i,ρA x))).map AV.agg=some av):Has P C (Instr.build t (ps.map fun (i,x)=>(i,ρ x))) av:=by
 simp only [Cb] at h;obtain ⟨ds,h,rfl⟩:=h;obtain ⟨zv,hz1,rfl⟩:=Kd (w:=C.w) hz;unfold fieldsOf at hp;split at hp
 ·rename_i fs hu;have hm:=Ua (w:=C.w) hp;obtain ⟨out,h1,h2,-⟩:=W2 (C:=C) (pl:=pl) (place:=fun i=>pl.toArray[i]?) (us:=ps.toList.map fun (i,x)=>(i,ρ x)) (cells:=zv.cells) (fun i=>by simp [Ae]) h (Jm _) (by simp) (by
   intro k i x j u h1 h2;simp only [F1,Cb] at h1 h2;obtain ⟨⟨a,b⟩,h3,h4⟩:=h1;obtain ⟨⟨a',b'⟩,h5,h6⟩:=h2;rw [h3] at h5;simp only [A3,Ch] at h5 h4 h6;obtain ⟨rfl,rfl⟩:=h5;obtain ⟨rfl,rfl⟩:=h4;obtain ⟨rfl,rfl⟩:=h6;exact ⟨rfl,hρ _⟩)
  refine ⟨.agg out,?_,by simp only [VR]; exact ⟨out,rfl,h2⟩⟩;have e1:(ps.map fun (i,x)=>(i,ρ x)).toList=ps.toList.map fun (i,x)=>(i,ρ x):=by simp
  have e2:(fs.mapM (m:=Sem) fun f=>do pure (f.offset,<- kJ f.type)).run P C.w=.ok pl.toArray C.w:=by
   rw [Array.mapM_eq_mapM_toList,Sem.run_map,hm]; rfl
  simp only [Instr.build,Fv,hz1,Fj,Bk hu,e2,e1,h1,I1]
 ·simp at hp
theorem SR.fresh [Globs] {C:Cx} (hs:SR C) {b o:Nat} (hb:C.w.heap.size<=b):¬ C.Avoid b o:=by
 rintro (h|⟨id,hid,h⟩|⟨id,hid,h1,h2,h3⟩)
 ·have:=hs.avlt b o h; omega
 ·obtain ⟨e,he⟩:∃ e,nth C.S id=some e:=⟨C.S[id],by rw [Ae]; exact It hid⟩;obtain ⟨-,cs,t,h2,-⟩:=hs.ent id e he;have:=(Cj.1 h2).1;omega
 ·have:=hs.tlt id o hid h2 h3;omega
theorem Vh:∀ {e vs r:List AV},vs.length=e.length->puts (e++r) 0 vs=vs++r
 | [],[],_,_=>rfl
 | e :: es,v :: vs,r,h=>by
  simp only [Cp,puts,put];rw [Ln,Vh aI]
 | [],_ :: _,_,h=>aO
 | _ :: _,[],_,h=>aO
theorem Acn:∀ {e r vs:List AV} {k:Nat},puts (e++r) (e.length+k) vs=e++puts r k vs
 | [],r,vs,k=>by simp
 | e :: es,r,vs,k=>by
  simp only [Cp,Cm];rw [show es.length+1+k=es.length+k+1 from by omega,Ln,Acn]
theorem Ui {sz:Nat} : ∀ {es:List (List AV)} {i:Nat} {vs:List AV},(∀ e ∈ es,e.length=sz)->i<es.length->vs.length=sz->(put es i vs).flatten=puts es.flatten (i*sz) vs
 | e :: es,0,vs,h,_,hv=>by
  simp only [put,Ff,Oj];rw [Vh (by rw [hv,h e (by simp)])]
 | e :: es,i+1,vs,h,hi,hv=>by
  simp only [put,Ff];rw [Ui (fun x hx=>h x bJ) dF hv];rw [show (i+1)*sz=e.length+i*sz from by rw [h e (by simp),Oc]; omega,Acn]
 | [],_,_,_,hi,_=>by simp at hi
theorem J0 {α:Type} : ∀ {l:List α} {i:Nat} {v x:α},x ∈ put l i v->x=v\/x ∈ l
 | _ :: _,0,_,_,h=>by simp only [put,C6] at h ⊢; rcases h with h|h <;> simp [h]
 | y :: l,i+1,v,x,h=>by
  simp only [put,C6] at h ⊢;rcases h with h|h
  ·simp [h]
  ·rcases J0 h with h|h <;> simp [h]
 | [],_,_,_,h=>by simp [put] at h
theorem Am {α:Type} : ∀ {l:List α} {i:Nat} {v:α},(put l i v).length=l.length
 | [],_,_=>rfl
 | _ :: _,0,_=>rfl
 | _ :: l,i+1,v=>by simp [put,Am]
theorem Pr:∀ {vs cs:List AV} {o:Nat},(puts cs o vs).length=cs.length
 | [],_,_=>rfl
 | v :: vs,cs,o=>by simp only [puts]; rw [Pr,Am]
theorem Z3 {w:World} {A:Nat->Nat->Prop} : ∀ {e r:List AV} {l:List Value},PRs w A (e++r) l->PRs w A e (l.take e.length)/\PRs w A r (l.drop e.length)
 | [],r,l,h=>⟨by simp [PRs],aI⟩
 | c :: e,r,[],h=>by simp [PRs] at h
 | c :: e,r,v :: l,h=>by
  simp only [Cp,PRs] at h;obtain ⟨h1,h2⟩:=Z3 h.2;exact ⟨by simp only [Cm,F9,PRs]; exact ⟨h.1,h1⟩,bT⟩
theorem H8 {w:World} {A:Nat->Nat->Prop} : ∀ {e r:List AV} {l m:List Value},PRs w A e l->PRs w A r m->PRs w A (e++r) (l++m)
 | [],_,[],_,_,h=>h
 | _ :: _,_,_ :: _,_,h,h'=>by simp only [Cp,PRs] at h ⊢; exact ⟨h.1,H8 h.2 h'⟩
 | [],_,_ :: _,_,h,_=>bN
 | _ :: _,_,[],_,h,_=>bN
theorem Ky {w':World} {A:Nat->Nat->Prop} {b:Nat} : ∀ {l:List Value} {o:Nat},(∀ j v,l[j]?=some v->w'.cell? ⟨b,o+j,none⟩=some v/\¬ A b (o+j))->Lie w' A b o l
 | [],_,_=>trivial
 | v :: l,o,h=>⟨by simpa using (h 0 v rfl).1,by simpa using (h 0 v rfl).2,Ky fun j u hu=>by
   have:=h (j+1) u eD;rwa [show o+(j+1)=o+1+j from by omega] at this⟩
theorem Kx {w':World} {A:Nat->Nat->Prop} {b:Nat} : ∀ {l:List Value} {o:Nat},Lie w' A b o l->∀ (j:Nat) (v:Value),l[j]?=some v->w'.cell? ⟨b,o+j,none⟩=some v/\¬ A b (o+j)
 | _ :: _,_,h,0,_,e=>by simp at e; subst e; exact ⟨h.1,h.2.1⟩
 | _ :: l,o,h,j+1,v,e=>by
  have:=Kx h.2.2 j v (by simpa using e);rwa [show o+1+j=o+(j+1) from by omega] at this
 | [],_,_,_,_,e=>by simp at e
theorem G4 {w':World} {A:Nat->Nat->Prop} {b sz:Nat} : ∀ {es:List (List AV)} {o:Nat} {l:List Value},(∀ e ∈ es,e.length=sz)->PRs w' A es.flatten l->Lie w' A b o l->B0 w' A b sz o es
 | [],_,_,_,_,_=>by simp only [B0]
 | e :: es,o,l,hl,h,zl=>by
  simp only [B0];simp only [Ff] at h;obtain ⟨h1,h2⟩:=Z3 h;have he:=hl e (by simp);refine ⟨he,⟨_,?_,h1⟩,G4 (fun x hx=>hl x bJ) h2 ?_⟩
  ·exact Ky fun j v hj=>Kx zl j v (by
    rw [I2] at hj;split at hj
    ·exact hj
    ·simp at hj)
  ·rw [<- he]; exact Rr _ zl
theorem Hf {w':World} {A:Nat->Nat->Prop} {b sz:Nat} : ∀ {es:List (List AV)} {o:Nat},B0 w' A b sz o es->∃ l,l.length=es.length*sz/\PRs w' A es.flatten l/\Lie w' A b o l
 | [],_,_=>⟨[],by simp,by simp [PRs],trivial⟩
 | e :: es,o,h=>by
  simp only [B0] at h;obtain ⟨h1,⟨vs,hl,hp⟩,h3⟩:=h;obtain ⟨l,g1,g2,g3⟩:=Hf h3;have hv:vs.length=sz:=by rw [<- L0 hp,h1]
  refine ⟨vs++l,by simp only [Cs,Cm,Oc]; omega,by simp only [Ff]; exact H8 hp g2,?_⟩;refine Ky fun j v hj=>?_;rw [List.getElem?_append] at hj;split at hj
  ·exact Kx hl j v hj
  ·rename_i hn;have:=Kx g3 _ v hj;rwa [show o+sz+(j - vs.length)=o+j from by omega] at this
theorem Ajt {w':World} {A:Nat->Nat->Prop} {b sz:Nat} {out:Array Value} {t:TypeId} {fz:Nat × Nat} (hb:w'.heap[b]?=some (.cells out t fz)) (hA:∀ o,¬ A b o) {es:List (List AV)} {l r:List Value} (hl:∀ e ∈ es,e.length=sz) (h:PRs w' A es.flatten l) (oh:out.toList=l++r):B0 w' A b sz 0 es :=
 G4 hl h (Ky fun j v hj=>⟨by
  have eo:out.toList[j]?=some v:=by rw [oh,Cu (Fk.1 hj).1]; exact hj
  have:out[j]?=some v:=by simpa using eo
  simp [I7,hb,this],hA _⟩)
theorem Q2 {C:Cx} {sz:Nat} : ∀ {ps:List (Nat × AV)} {us:List (Nat × Value)} {es es':List (List AV)} {cells:Array Value},elemsA sz es ps=some es'->(∀ e ∈ es,e.length=sz)->es.flatten.all pure1=true->VRs C es.flatten cells.toList ->
  ps.length=us.length->(∀ (k i:Nat) (x:AV) (j:Nat) (u:Value),ps[k]?=some (i,x)->us[k]?=some (j,u)->i=j/\VR C x u) ->
  ∃ out,Sk (fun i=>some (i*sz,sz)) cells us=some out/\VRs C es'.flatten out.toList/\(∀ e ∈ es',e.length=sz)/\es'.flatten.all pure1=true/\es'.length=es.length
 | [],[],es,es',cells,h,hl,hp,hc,_,_=>by simp only [elemsA,A3] at h; subst h; exact ⟨cells,rfl,hc,hl,hp,rfl⟩
 | (i,x) :: ps,(j,u) :: us,es,es',cells,h,hl,hp,hc,hlen,aq=>by
  simp only [elemsA] at h;split at h
  ·rename_i vs gt;split at h
   ·rename_i hh;obtain ⟨h1,h2,h3⟩:=hh;obtain ⟨rfl,hxu⟩:=aq 0 i x j u rfl rfl;have hv:=G6 gt (Ats hxu);have e1:u.cells.size=sz:=by have:=A5 hv; simp at this; omega
    have ew:es.flatten.length=es.length*sz:=by
     clear h aq hc hp h3 hlen;induction es with
     | nil=>simp
     | cons e es ih=>simp only [Ff,Cs,Cm]; rw [ih (fun x hx=>hl x bJ),hl e (by simp),Oc]; omega
    have e2:i*sz+sz<=cells.size:=by
     have:=A5 hc;simp only [Iv] at this;have h4:(i+1)*sz<=es.length*sz:=E5 _ h3;rw [Oc] at h4;omega
    have hf:=Ui hl h3 h1;have bp:VRs C (put es i vs).flatten (u.cells.zipIdx.foldl (fun cs (x:Value × Nat)=>cs.setIfInBounds (i*sz+x.2) x.1) cells).toList:=by
     rw [<- jX,jO,Th (i*sz) u.cells.toList 0 cells,hf];exact L5 hc hv
    have fk:(put es i vs).flatten.all pure1=true:=by
     rw [C4] at hp h2 ⊢;intro c hc;rw [Se] at hc;obtain ⟨e,he,hce⟩:=hc;rcases J0 he with rfl|he
     ·exact h2 c hce
     ·exact hp c (Se.2 ⟨e,he,hce⟩)
    have ph:∀ e ∈ put es i vs,e.length=sz:=by
     intro e he;rcases J0 he with rfl|he
     ·exact h1
     ·exact hl e he
    obtain ⟨out,k1,k2,k3,k4,k5⟩:=Q2 h ph fk bp (by simpa using hlen) (fun k i' x' j' u' a b=>aq (k+1) i' x' j' u' (by simpa using a) (by simpa using b));refine ⟨out,?_,k2,k3,k4,by rw [k5,Am]⟩;have:Sk (fun i=>some (i*sz,sz)) cells ((i,u) :: us)=Sk (fun i=>some (i*sz,sz)) (u.cells.zipIdx.foldl (fun cs (x:Value × Nat)=>cs.setIfInBounds (i*sz+x.2) x.1) cells) us:=by
     simp [Sk,e1];omega
    rw [this]; exact k1
   ·simp at h
  ·simp at h
 | [],_ :: _,_,_,_,_,_,_,_,hl,_=>dN
 | _ :: _,[],_,_,_,_,_,_,_,hl,_=>dN
theorem Vj (l:List Value) (s:Nat) (hs:l.length=s) (h0:0<s):∀ n,(Ih (n*s)).map (fun i=>l[i % s]!)=(Cg n l).flatten
 | 0=>by simp
 | n+1=>by
  have ih:=Vj l s hs h0 n;rw [jH,jP,<- ih];rw [Oc,List.range_add,F6];congr 1;simp only [Ol,Ff,Sg,Fp];apply List.ext_getElem
  ·simp [hs]
  ·intro i h1 h2;simp only [List.getElem_map,List.getElem_range,Function.comp];have hi:i<s:=aW
   rw [Nat.mul_add_mod_self_right,Om hi];simp [h2]
theorem H9 (w:World) (e:TypeId) (cells:Array Value):(newRow e cells).run P w=.ok ⟨w.heap.size,0,none⟩ (w.alloc (.cells cells e)):=rfl
theorem Ap (w:World) (o:Obj):(w.alloc o).heap[w.heap.size]?=some o:=by
 show (w.heap.push o)[w.heap.size]?=some o;simp
theorem Rf [Globs] {C:Cx} (hs:SR C) {ρA:Operand->AV} {ρ:Operand->Value} (hρ:∀ x,VR C (ρA x) (ρ x)) {t e:TypeId} {len sz:Nat} {ps:Array (Nat × Operand)} {z:List AV} {es:List (List AV)} (he:Ay P t=some e) (hsz:szOf P e=some (sz+1)) (hz:Av P e=some z)
  (hzl:z.length=sz+1) (hzp:(z.all fun c=>pure1 (w1 c))=true) (bv:len*(sz+1)<=4096) (h:elemsA (sz+1) (Cg len (z.map w1)) (ps.toList.map fun (i,x)=>(i,ρA x))=some es) :
  ∃ v w',(iU t len (ps.map fun (i,x)=>(i,ρ x))).run P C.w=.ok v w'/\Below C.w.heap.size C.w w'/\VR (C.at w') (.frz es .tight) v:=by
 obtain ⟨zv,hz1,rfl⟩:=Kd (w:=C.w) hz;have pq:zv.cells.size=sz+1:=by simpa using hzl
 have hz0:VRs C (Cg len ((zv.cells.toList.map cst1).map w1)).flatten (Cg len zv.cells.toList).flatten:=by
  clear h bv;induction len with
  | zero=>simp [VRs]
  | succ n ih=>simp only [Iw,Ff]; exact Hg (Wq (Jm _)) ih
 have hcells:((gE (len*(sz+1))).map fun i=>zv.cells[i % zv.cells.size]!).toList=(Cg len zv.cells.toList).flatten:=by
  rw [<- Vj zv.cells.toList (sz+1) (by simpa using pq) aA len];simp [pq,Array.toList_range];intro a _; rw [getElem!_def]; cases zv.cells[a % (sz+1)]? <;> rfl
 obtain ⟨out,h1,h2,h3,h4,h5⟩:=Q2 (C:=C) (us:=ps.toList.map fun (i,x)=>(i,ρ x)) (cells:=(gE (len*(sz+1))).map fun i=>zv.cells[i % zv.cells.size]!) h (by
   intro e he; rw [Iu] at he; rw [he.2]; simpa using hzl) (by
   rw [C4] at hzp ⊢;intro c hc;rw [Se] at hc;obtain ⟨l,hl,hc⟩:=hc;rw [Iu] at hl;rw [hl.2,Fg] at hc;obtain ⟨c',bp,rfl⟩:=hc;exact hzp c' bp) (by rw [hcells]; exact hz0) (by simp) (by
   intro k i x j u h1 h2;simp only [F1,Cb] at h1 h2;obtain ⟨⟨a,b⟩,h3,h4⟩:=h1;obtain ⟨⟨a',b'⟩,h5,h6⟩:=h2;rw [h3] at h5;simp only [A3,Ch] at h5 h4 h6;obtain ⟨rfl,rfl⟩:=h5;obtain ⟨rfl,rfl⟩:=h4;obtain ⟨rfl,rfl⟩:=h6;exact ⟨rfl,hρ _⟩)
 have hb:Below C.w.heap.size C.w (C.w.alloc (.cells out e)):=(Fq _ _).alloc (Cf _) _;refine ⟨.slice (some ⟨C.w.heap.size,0,none⟩) len len,C.w.alloc (.cells out e),?_,hb,?_⟩
 ·have e1:(ps.map fun (i,x)=>(i,ρ x)).toList=ps.toList.map fun (i,x)=>(i,ρ x):=by simp
  have zk:¬ (len*(sz+1) > 2 ^ 24):=aA
  simp only [iU,Fv,Bk (D1 he),E2 hsz,Fj,Sem.run_ite];rw [if_neg zk];by_cases hl:len*(sz+1)=0
  ·rw [if_pos hl];have dp:len=0:=by
    rcases Nat.mul_eq_zero.1 hl with h|h
    ·exact h
    ·omega
   subst dp;have e0:∀ (f:Nat->Value),(gE (0*(sz+1))).map f=#[]:=fun f=>by simp
   rw [e0] at h1;simp only [I1,Fj,e1,e0,h1,Fv,H9]
  ·rw [if_neg hl];simp only [hz1,Fj,e1,h1,Fv,I1,H9]
 ·simp only [VR];refine ⟨_,len,len,rfl,by simpa using h5,Cf _,rfl,?_⟩;by_cases wg:es=[]
  ·exact .inl wg
  ·right;refine ⟨C.w.heap.size,0,sz+1,rfl,?_⟩;have a0m:∀ o,¬ (C.at (C.w.alloc (.cells out e))).Avoid C.w.heap.size o:=fun o=>hs.fresh (Cf _);have h6:=VRs.mono (Le.of_below hb) _ _ h2;exact Ajt (out:=out) (t:=e) (fz:=(0,0)) (r:=[]) (Ap _ _) a0m h3 (J2 h4 h6) (by simp)
theorem Ani:∀ {vs cs:List AV},cs.length=vs.length->over cs 0 vs=some vs
 | [],[],_=>rfl
 | v :: vs,c :: cs,h=>by simp only [over,Ani (vs:=vs) (cs:=cs) aI,Cy]
 | [],_ :: _,h=>aO
 | _ :: _,[],h=>aO
theorem X6 {C:Cx} : ∀ vs:List Value,VRs C (Cg vs.length AV.bot) vs
 | []=>by simp [VRs]
 | _ :: vs=>by simp only [Cm,Iw,VRs,VR]; exact ⟨trivial,X6 vs⟩
theorem Aim [Globs] {C:Cx} (hs:SR C) {ρA:Operand->AV} {ρ:Operand->Value} (hρ:∀ x,VR C (ρA x) (ρ x)) {t e:TypeId} {len sz:Nat} {ps:Array (Nat × Operand)} {z:List AV} {av:AV} (he:Ay P t=some e) (hsz:szOf P e=some (sz+1)) (hz:Av P e=some z)
  (hzl:z.length=sz+1) (bv:len*(sz+1)<=4096) (h:lit1 (sz+1) len (ps.toList.map fun (i,x)=>(i,ρA x))=some av) :
  ∃ v w',(iU t len (ps.map fun (i,x)=>(i,ρ x))).run P C.w=.ok v w'/\Below C.w.heap.size C.w w'/\VR (C.at w') av v:=by
 obtain ⟨zv,hz1,rfl⟩:=Kd (w:=C.w) hz;have pq:zv.cells.size=sz+1:=by simpa using hzl
 unfold lit1 at h;split at h
 ·rename_i x qp;split at h
  ·rename_i vs gt;split at h
   ·rename_i hh;simp only [A3] at h; subst h;obtain ⟨y,hy,i5⟩:∃ y,ps.toList=[(0,y)]/\ρA y=x:=by
     match hl:ps.toList with
     | [(i,y)] =>
      rw [hl] at qp;simp only [Cn,Ct,gY,Ch,and_true] at qp;obtain ⟨rfl,h2⟩:=qp;exact ⟨y,rfl,h2⟩
     | []=>rw [hl] at qp; simp at qp
     | _ :: _ :: _=>rw [hl] at qp; simp at qp
    subst i5;have hv:=G6 gt (hρ y);have vu:=A5 hv;have e1:(ρ y).cells.size=sz+1:=by simp at vu; omega
    obtain ⟨cells,hcd⟩:∃ cells,cells=(gE (1*(sz+1))).map fun i=>zv.cells[i % zv.cells.size]!:=⟨_,rfl⟩;have a2i:cells.size=sz+1:=by rw [hcd]; simp
    have cq:over (Cg cells.toList.length AV.bot) 0 vs=some vs:=Ani aC;obtain ⟨h1,h2⟩:=J7 cq;obtain ⟨out,nk⟩:∃ out,out=((ρ y).cells.zipIdx.foldl (fun cs (x:Value × Nat)=>cs.setIfInBounds (0*(sz+1)+x.2) x.1) cells):=⟨_,rfl⟩;have oh:VRs C vs out.toList:=by
     rw [nk,<- jX,jO,Th (0*(sz+1)) (ρ y).cells.toList 0 cells,h1];simp only [Oj];exact L5 (X6 _) hv
    have a1s:Sk (fun i=>some (i*(sz+1),sz+1)) cells [(0,ρ y)]=some out:=by
     have:Sk (fun i=>some (i*(sz+1),sz+1)) cells [(0,ρ y)]=Sk (fun i=>some (i*(sz+1),sz+1)) ((ρ y).cells.zipIdx.foldl (fun cs (x:Value × Nat)=>cs.setIfInBounds (0*(sz+1)+x.2) x.1) cells) []:=by
      simp [Sk,e1,a2i]
     rw [this,<- nk]; rfl
    have hb:Below C.w.heap.size C.w (C.w.alloc (.cells out e)):=(Fq _ _).alloc (Cf _) _;refine ⟨.slice (some ⟨C.w.heap.size,0,none⟩) 1 1,C.w.alloc (.cells out e),?_,hb,?_⟩
    ·have e2:(ps.map fun (i,x)=>(i,ρ x)).toList=[(0,ρ y)]:=by simp [hy]
     have zk:¬ (1*(sz+1) > 2 ^ 24):=aA
     simp only [iU,Fv,Bk (D1 he),E2 hsz,Fj,Sem.run_ite];rw [if_neg zk,if_neg aA];simp only [hz1,Fj,e2,<- hcd,a1s,Fv,I1,H9]
    ·simp only [VR];refine ⟨C.w.heap.size,out.toList,rfl,Ky fun j v hj=>⟨?_,hs.fresh (Cf _)⟩,VRs.mono (Le.of_below hb) _ _ oh⟩;show (C.w.alloc (.cells out e)).cell? _=_;simp only [Fo,I7,Ap];simpa using hj
   ·simp at h
  ·simp at h
 ·simp at h
theorem Ab7 {t:TypeId} {m:String} {f:FuncId} (h:mRow P t m=some f):∃ i r p,P.info? t=some i/\i.methods.find? (·.name == m)=some r/\r.path=#[]/\r.func=some (f,p)/\((p=true/\∃ e,P.underlying t=some (.pointer e))\/(p=false/\∃ fs,P.underlying t=some (.struct fs))):=by
 unfold mRow at h;split at h
 ·rename_i r hr;simp only [Il] at hr;obtain ⟨i,h1,h2⟩:=hr;split at h
  ·rename_i hp;have fk:r.path=#[]:=by simpa using hp
   split at h
   ·rename_i f' e h3 h4;simp only [A3] at h; subst h;exact ⟨i,r,true,h1,h2,fk,h3,.inl ⟨rfl,e,h4⟩⟩
   ·rename_i f' fs h3 h4;simp only [A3] at h; subst h;exact ⟨i,r,false,h1,h2,fk,h3,.inr ⟨rfl,fs,h4⟩⟩
   ·simp at h
  ·simp at h
 ·simp at h
theorem Wi {w:World} {t:TypeId} {m:String} {u:Value} (h:(mRow P t m).isSome=true):(nilAhead (P.types.size+iD) t u m).run P w=.ok (some false) w:=by
 obtain ⟨f,hf⟩:=Sw.1 h;obtain ⟨i,r,p,h1,h2,h3,h4,h5⟩:=Ab7 hf;have hd:P.types.size+iD=(P.types.size+iD - 1)+1:=by
   have:0<iD:=aK
   omega
 rw [hd];rcases h5 with ⟨rfl,e,h5⟩|⟨rfl,fs,h5⟩
 ·simp [nilAhead,typeInfo,h1,h2,h3,h4,followBlind]
 ·simp [nilAhead,typeInfo,h1,h2,h3,h4,followBlind,Bk h5]
theorem Air {w:World} {t:TypeId} {m:String} {f:FuncId} {u:Value} (h:mRow P t m=some f):(method (P.types.size+iD) t u m).run P w=.ok (f,u) w:=by
 obtain ⟨i,r,p,h1,h2,h3,h4,h5⟩:=Ab7 h;have hd:P.types.size+iD=(P.types.size+iD - 1)+1:=by
   have:0<iD:=aK
   omega
 rw [hd];rcases h5 with ⟨rfl,e,h5⟩|⟨rfl,fs,h5⟩
 ·exact Ya3i
 ·exact Ya3i
theorem Xa {C:Cx} {x:AV} {v:Value} {n:Nat} (hx:VR C x v) (h:lenA x=some n):∃ a cap,v=.slice a n cap:=by
 unfold lenA at h;split at h
 ·simp only [A3] at h; subst h;simp only [VR] at hx;obtain ⟨a,len,cap,rfl,e,-⟩:=hx;exact ⟨a,cap,by rw [e]⟩
 ·simp only [A3] at h; subst h;simp only [VR] at hx;obtain ⟨b,a,cap,rfl,-⟩:=hx;exact ⟨a,cap,rfl⟩
 ·simp at h
theorem L2 {C:Cx} {ρA:Operand->AV} {ρ:Operand->Value} (hρ:∀ x,VR C (ρA x) (ρ x)):∀ l:List Operand,VRs C (l.map ρA) (l.map ρ)
 | []=>dS
 | x :: l=>by simp only [Cn,VRs]; exact ⟨hρ x,L2 hρ l⟩
theorem Aea {t:TypeId} (h:Us P t=true):∃ e,P.underlying t=some (.slice e)/\P.underlying e=some (.int .u8):=by
 unfold Us at h;cases he:Ay P t with
 | none=>rw [he] at h; simp at h
 | some e =>
  rw [he] at h;simp only [Oo] at h;cases hk:Jo P e with
  | none=>rw [hk] at h; simp at h
  | some k =>
   rw [hk] at h;cases k <;> simp at h;exact ⟨e,D1 he,Qf hk⟩
theorem Ali [Globs] {C:Cx} (hs:SR C) {ρ:Operand->Value} {o:Oper} {s d:TypeId} {x:Operand} {ax av:AV} (hx:VR C ax (ρ x)) (e:o.op=.convert s d x) (h:cvA P s d ax=some av):Gives P C ρ o av:=by
 unfold cvA at h;split at h
 ·rename_i b;split at h
  ·rename_i hh;simp only [Ci,decide_eq_true_eq] at hh;obtain ⟨⟨h1,h2⟩,h3⟩:=hh;simp only [A3] at h; subst h;obtain ⟨el,g1,g2⟩:=Aea h2;simp only [VR] at hx;have hb:Below C.w.heap.size C.w (Lib.bytesWorld C.w el b):=Lib.bytesWorld_below C.w el b;refine ⟨.slice (some ⟨C.w.heap.size,0,none⟩) b.size (grownCap C.w b.size 0 el),Lib.bytesWorld C.w el b,?_,hb,?_⟩
   ·simp only [execOp,e,hx,Fv,Lib.run_convert_string_bytes C.w s d el b (Je h1) g1 g2,Fj,I1]
   ·have hg:=grownCap_ge C.w b.size 0 el;simp only [VR];refine ⟨_,b.size,_,rfl,by simp [bytesL],hg,trivial,.inr ⟨C.w.heap.size,0,1,rfl,?_⟩⟩;have qq:∀ (A:Nat->Nat->Prop) (w:World) (l:List UInt8),PRs w A (l.map fun x=>([.prim (.int .u8 x.toNat)]:List AV)).flatten (l.map fun x=>iH .u8 (x.toNat:Int)):=by
     intro A w l;induction l with
     | nil=>simp [PRs]
     | cons x l ih=>simp only [Cn,Ff,Cp,Cz,PRs]; exact ⟨by simp [PR,iK],ih⟩
    refine G4 (l:=b.data.toList.map fun x=>iH .u8 (x.toNat:Int)) (fun q hq=>?_) (qq _ _ _) (Ky fun j v hj=>⟨?_,hs.fresh (Cf _)⟩)
    ·unfold bytesL at hq;rw [Fg] at hq;obtain ⟨x,-,rfl⟩:=hq;rfl
    ·have eo:j<b.size:=by
      have:=(Fk.1 hj).1;rw [F8,Iv] at this;exact this
     rw [Fo];show (Lib.bytesWorld C.w el b).cell? _=_;rw [Lib.bytesWorld_cell C.w el b j eo,<- hj];simp only [F1,List.getD];have:j<b.data.toList.length:=by rw [Iv]; exact eo
     rw [It this];rfl
  ·exact .of_has (Tq hx h) bG
 ·exact .of_has (Tq hx h) bG
theorem Ac6 {C:Cx} {x y:AV} {l:List Value} (h:VRs C [x,y] l):∃ u v,l=[u,v]:=by
 match l,h with
 | [u,v],_=>exact ⟨u,v,rfl⟩
 | [],h=>simp only [VRs] at h
 | [_],h=>simp only [VRs,and_false] at h
 | _ :: _ :: _ :: _,h=>simp only [VRs,and_false] at h
theorem Al0 [Globs] {C:Cx} (hs:SR C) {ρA:Operand->AV} {ρ:Operand->Value} (hρ:∀ x,VR C (ρA x) (ρ x)) {o:Oper} {av:AV} (h:evQ P o ρA=some av):Gives P C ρ o av:=by
 unfold evQ at h;split at h;case h_1 x e=>simp only [A3] at h; subst h; exact .of_has (s:=pure (ρ x)) ⟨_,rfl,hρ x⟩ (by simp [execOp,e])
 case h_2 x e=>simp only [A3] at h; subst h; exact .of_has (s:=pure (ρ x)) ⟨_,rfl,hρ x⟩ (by simp [execOp,e])
 case h_3 c a b e =>
  split at h
  ·rename_i t hc
   simp only [A3] at h; subst h
   have hv:=hρ c
   rw [hc] at hv; simp only [VR] at hv
   refine ⟨if t then ρ a else ρ b,C.w,by simp [execOp,e,hv,asBool],Fq _ _,?_⟩
   cases t
   ·exact hρ b
   ·exact hρ a
  ·simp at h
 case h_4 b t x y e' e=>exact .of_has (Ah1 (ox:=x) (oy:=y) (hρ x) (hρ y) h) bG
 case h_5 u t x e=>exact .of_has (Aj4 (hρ x) h) bG
 case h_6 s d x e=>exact Ali hs (hρ x) e h
 case h_7 t i e =>
  split at h
  ·rename_i vs hc
   have hv:=hρ t
   rw [hc] at hv; simp only [VR] at hv
   obtain ⟨us,e2,hv⟩:=hv
   obtain ⟨v,h1,h2⟩:=Wp hv h
   exact .of_has (s:=Instr.extract (ρ t) i) ⟨v,by rw [e2]; simp at h1; simp [Instr.extract,h1],h2⟩ bG
  ·simp at h
 case h_8 t x k e =>
  split at h
  ·rename_i off sz b cs hf hc
   obtain ⟨fs,f,hu,hfk,h1,h2,h3,h4⟩:=Nd hf
   have hv:=hρ x
   rw [hc] at hv; simp only [VR] at hv
   obtain ⟨us,e2,hv⟩:=hv
   obtain ⟨v,g1,g2⟩:=Aix h2 h3 hv h
   exact .of_has (s:=Instr.field t (ρ x) k) ⟨v,by rw [e2]; simp [Instr.field,Bk hu,hfk,asAgg,h1,g1],g2⟩ bG
  ·simp at h
 case h_9 t x i e=>exact .of_has (Aig (hρ x) (hρ i) h) bG
 case h_10 t x k e=>exact .of_has (Aic (hρ x) h) bG
 case h_11 t x i e =>
  split at h
  ·rename_i s k hc hk
   split at h
   ·rename_i ht
    simp only [Cb] at h
    obtain ⟨b,hb,rfl⟩:=h
    have hv:=hρ x
    rw [hc] at hv; simp only [VR] at hv
    obtain ⟨ki,qu⟩:=Em hk (hρ i)
    refine .of_has (s:=Instr.index t (ρ x) (ρ i)) (.mk ?_) bG
    rw [hv,qu]
    simp [Instr.index,asIntOf,Bk (Je ht),hb]
   ·simp at h
  ·simp at h
 case h_12 t ps e =>
  split at h
  ·rename_i z pl hz hp
   exact .of_has (Adr hρ hz hp h) bG
  ·simp at h
 case h_13 t len ps e =>
  split at h
  ·rename_i el he
   split at h
   ·rename_i sz z hsz hz
    split at h
    ·rename_i hh
     obtain ⟨h1,h2,h3⟩:=hh
     unfold Aiw at h
     split at h
     ·rename_i es wg
      simp only [A3] at h; subst h
      obtain ⟨v,w',g1,g2,g3⟩:=Rf hs hρ he hsz hz h1 h2 h3 wg
      exact ⟨v,w',Za1e,g2,g3⟩
     ·obtain ⟨v,w',g1,g2,g3⟩:=Aim hs hρ he hsz hz h1 h3 h
      exact ⟨v,w',Za1e,g2,g3⟩
    ·simp at h
   ·simp at h
  ·simp at h
 case h_14 t x lo hi mx e=>exact .of_has (Acv (hρ x) (Xz hρ lo) (Xz hρ hi) (Xz hρ mx) h) bG
 case h_15 f first caps e =>
  split at h
  ·rename_i hh
   simp only [A3] at h; subst h
   have hf:first=#[]:=by simpa using hh.1
   refine .of_has (s:=gF (.func f) (first.map ρ) (caps.map ρ)) ⟨.func (.func f) #[] (caps.map ρ),by simp [gF,hf],?_⟩ bG
   simp only [VR]
   exact ⟨_,rfl,Za42⟩
  ·split at h
   ·rename_i hh
    simp only [A3] at h; subst h
    have hf:caps=#[]:=by simpa using hh
    refine .of_has (s:=gF (.func f) (first.map ρ) (caps.map ρ)) ⟨.func (.func f) (first.map ρ) #[],by simp [gF,hf],?_⟩ bG
    simp only [VR]
    exact ⟨_,rfl,Za42⟩
   ·simp at h
 case h_16 c e =>
  split at h
  ·rename_i hb
   have aa:=L2 hρ c.args.toList
   split at h
   ·rename_i s t hc ht
    split at h
    ·rename_i ag
     simp only [A3] at h; subst h
     rw [hc] at aa
     obtain ⟨u,hu⟩:∃ u,c.args.toList.map ρ=[u]:=by
      exact Ya3g
     rw [hu] at aa
     simp only [VRs,VR,and_true] at aa
     have ha:c.args.map ρ=#[.string s]:=by rw [<- gH]; simp [hu,aa]
     refine ⟨.int .i64 s.size,C.w,?_,Fq _ _,bQ⟩
     have y7:c.argTypes=#[t]:=dB
     simp [execOp,e,resolve,hb,ha,invoke,builtin,Builtin.len_,y7,Bk (Je ag),goInt]
    ·simp at h
   ·rename_i x t _ hc ht
    split at h
    ·rename_i ag
     simp only [Cb] at h
     obtain ⟨n,hn,rfl⟩:=h
     rw [hc] at aa
     obtain ⟨u,hu⟩:∃ u,c.args.toList.map ρ=[u]:=by
      exact Ya3g
     rw [hu] at aa
     simp only [VRs,and_true] at aa
     obtain ⟨a,cap,rfl⟩:=Xa aa hn
     have ha:c.args.map ρ=#[.slice a n cap]:=cU
     obtain ⟨el,he⟩:=Sw.1 ag
     refine ⟨.int .i64 n,C.w,?_,Fq _ _,bQ⟩
     have y7:c.argTypes=#[t]:=dB
     simp [execOp,e,resolve,hb,ha,invoke,builtin,Builtin.len_,y7,Bk (D1 he),goInt]
    ·simp at h
   ·simp at h
  ·rename_i hb
   have aa:=L2 hρ c.args.toList
   split at h
   ·rename_i x y hc
    rw [hc] at aa
    obtain ⟨u,v,hu⟩:=Ac6 aa
    rw [hu] at aa
    simp only [VRs,and_true] at aa
    have ha:c.args.map ρ=#[u,v]:=cU
    unfold minA at h
    split at h
    ·split at h
     ·rename_i hk
      subst hk
      simp only [A3] at h; subst h
      simp only [VR] at aa
      obtain ⟨rfl,rfl⟩:=aa
      refine ⟨_,C.w,?_,Fq _ _,by simp only [VR]; rfl⟩
      simp [execOp,e,resolve,hb,ha,invoke,builtin,Builtin.min_,Builtin.min2]
     ·simp at h
    ·simp at h
   ·simp at h
  ·rename_i hb
   have aa:=L2 hρ c.args.toList
   split at h
   ·rename_i x y hc
    rw [hc] at aa
    obtain ⟨u,v,hu⟩:=Ac6 aa
    rw [hu] at aa
    simp only [VRs,and_true] at aa
    have ha:c.args.map ρ=#[u,v]:=cU
    unfold maxA at h
    split at h
    ·split at h
     ·rename_i hk
      subst hk
      simp only [A3] at h; subst h
      simp only [VR] at aa
      obtain ⟨rfl,rfl⟩:=aa
      refine ⟨_,C.w,?_,Fq _ _,by simp only [VR]; rfl⟩
      simp [execOp,e,resolve,hb,ha,invoke,builtin,Builtin.max_,Builtin.max2]
     ·simp at h
    ·simp at h
   ·simp at h
  ·simp at h
 case h_17 m first caps e =>
  split at h
  ·rename_i x hf tu
   unfold mthA at h
   split at h
   ·rename_i t v hv
    simp only [A3] at h; subst h
    have hx:=hρ x
    rw [hv] at hx
    simp only [VR] at hx
    obtain ⟨u,hu,hvu⟩:=hx
    have e1:first.map ρ=#[.iface t u]:=by rw [<- gH]; simp [hf,hu]
    have e2:caps.map ρ=#[]:=by rw [<- gH]; simp [tu]
    refine .of_has (s:=gF (.method m) (first.map ρ) (caps.map ρ)) ⟨.func (.method m) #[.iface t u] #[],by rw [e1,e2]; simp [gF],?_⟩ bG
    simp only [VR]
    exact ⟨u,rfl,hvu⟩
   ·simp at h
  ·simp at h
 case h_18 t x e =>
  split at h
  ·simp at h
  ·rename_i hi
   simp only [A3] at h; subst h
   obtain ⟨ut,hut,hni⟩:∃ ut,P.underlying t=some ut/\∀ ms,ut≠.interface ms:=by
    unfold Aii at hi;split at hi
    ·simp at hi
    ·simp at hi
    ·rename_i h1 h2;cases hu:P.underlying t with
     | none=>exact absurd hu h2
     | some ut=>exact ⟨ut,rfl,fun ms hms=>h1 ms (by rw [hu,hms])⟩
   refine .of_has (s:=Instr.makeInterface t (ρ x)) ⟨.iface t (ρ x),?_,?_⟩ bG
   ·simp only [Instr.makeInterface,Fv,Bk hut,Fj]
    cases ut <;> first|rfl|exact absurd rfl (hni _)
   ·simp only [VR]
    exact ⟨_,rfl,hρ x⟩
 case h_19 x e =>
  have hx:=hρ x
  unfold chkM at h
  split at h
  ·rename_i t m v hv
   split at h
   ·rename_i hm
    simp only [A3] at h; subst h
    rw [hv] at hx
    have hx':=hx
    simp only [VR] at hx'
    obtain ⟨u,hb,-⟩:=hx'
    refine ⟨ρ x,C.w,?_,Fq _ _,hx⟩
    have hna:=Wi (P:=P) (w:=C.w) (u:=u) hm
    simp [execOp,e,hb,hna]
   ·simp at h
  unfold chkA at h
  split at h
  ·rename_i id ep off hv
   simp only [A3] at h; subst h
   rw [hv] at hx
   have hx':=hx
   simp only [VR] at hx'
   obtain ⟨b,hb,-⟩:=hx'
   exact ⟨ρ x,C.w,dV,Fq _ _,hx⟩
  ·rename_i cs hv
   simp only [A3] at h; subst h
   rw [hv] at hx
   have hx':=hx
   simp only [VR] at hx'
   obtain ⟨b,o,vs,hb,-⟩:=hx'
   exact ⟨ρ x,C.w,dV,Fq _ _,hx⟩
  ·rename_i f caps hv
   simp only [A3] at h; subst h
   rw [hv] at hx
   have hx':=hx
   simp only [VR] at hx'
   obtain ⟨vs,hb,-⟩:=hx'
   exact ⟨ρ x,C.w,dV,Fq _ _,hx⟩
  ·rename_i f first hv
   simp only [A3] at h; subst h
   rw [hv] at hx
   have hx':=hx
   simp only [VR] at hx'
   obtain ⟨vs,hb,-⟩:=hx'
   exact ⟨ρ x,C.w,dV,Fq _ _,hx⟩
  ·rename_i t v hv
   simp only [A3] at h; subst h
   rw [hv] at hx
   have hx':=hx
   simp only [VR] at hx'
   obtain ⟨u,hb,-⟩:=hx'
   exact ⟨ρ x,C.w,dV,Fq _ _,hx⟩
  ·simp at h
 ·simp at h
end
end
end Go.Proofs.YthelkgdmgihhiaaGreat
