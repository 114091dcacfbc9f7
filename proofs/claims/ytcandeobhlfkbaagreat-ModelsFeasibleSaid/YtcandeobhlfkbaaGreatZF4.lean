/- Part 4. -/
import Derived.Test.YtcandeobhlfkbaaGreatZF3
import Derived.Lib.ConvBytes
import Derived.Lib.AtoiErrMem
import Derived.Below
open Array renaming getElem?_eq_some_iff->Cj,length_toList->Ih,range->S7,toList_inj->fO,toList_zipIdx->iJ,foldl_toList->iP
open Bool renaming and_eq_true->Ch
open Go renaming sizeOf->jC
open Go.Instr renaming fill->O4,makeFunc->S9,buildSlice->gR
open Go.Made renaming depth->gD
open Go.Result renaming andThen_ok->Ev
open Go.RowKit.Below renaming refl->C5,cell->iR
open Go.Sem renaming run_bind->Fj,run_pure->It
open Go.Value renaming int->Sl,oneCell'->S8
open Go.World renaming cell?->Fz
open List renaming replicate->Ci,length_cons->Ck,mem_cons->Cn,map_cons->Cp,cons_append->Cr,length_append->Cs,getElem?_append_left->Ct,all_eq_true->Cv,nil_append->Cw,range->De,map_nil->Fi,length_map->Fq,getElem?_eq_some_iff->Fu,getElem?_map->Fw,flatten_cons->Fx,take_succ_cons->F1,append_nil->F4,mem_map->F9,map_append->Ij,getElem?_eq_getElem->Il,mem_replicate->Im,getElem?_take->Iu,replicate_succ->Lg,mem_flatten->fN,map_map->iM
open List.cons renaming injEq->I6
open Nat renaming le_refl->Cc,lt_of_lt_of_le->Ff,zero_add->Fg,mul_le_mul_right->Ic,succ_mul->Od,zero_mul->O0,mod_eq_of_lt->Sk
open Option renaming map_eq_some_iff->Ca,map_some->C3,bind_eq_some_iff->Ig,bind_some->I7,isSome_iff_exists->Si
open Option.some renaming injEq->A2
open Prod.mk renaming injEq->Cg
namespace Go.Proofs.YtcandeobhlfkbaaGreat
section
open Go.RowKit
section
variable {P:Program}
def Cx.at (C:Cx) (w:World):Cx:={ C with w:=w }
theorem Di {w w':World} (h:Below w.heap.size w w') {b:Nat} {o:Obj} (hb:w.heap[b]?=some o):w'.heap[b]?=some o:=by
 rw [h.block b (Cj.1 hb).1]; exact hb
theorem Le.of_below {C:Cx} {w':World} (h:Below C.w.heap.size C.w w'):Le C (C.at w') :=
 ⟨h.os,h.tape,h.output,h.size,rfl,Cc _,fun _ _ _ m=>m,fun b o v hv _=>by rw [show (C.at w').w=w' from rfl,iR h (Ea hv)]; exact hv,fun b hb _=>h.block b hb,
  fun b cs t fz hb=>⟨cs,Di h hb,rfl⟩,fun _ e' he _=>⟨e',he,rfl,rfl⟩,fun _ k hk=>⟨k,hk,Cc _,fun _=>rfl⟩⟩
theorem SR.of_below [Globs] {C:Cx} {w':World} (hs:SR C) (h:Below C.w.heap.size C.w w'):SR (C.at w'):=by
 have hle:=Le.of_below h;refine ⟨fun id e he=>?_,hs.ne,hs.tok,hs.apart,hs.own,fun b o ha=>Ff (hs.avlt b o ha) h.size,fun i o hi h1 h2=>Ff (hs.tlt i o hi h1 h2) h.size,Pg hs hle⟩;obtain ⟨h1,cs,t,h2,vs,r,h3,h4⟩:=hs.ent id e he;exact ⟨h1,cs,t,Di h h2,vs,r,h3,VRs.mono hle _ _ h4⟩
def Gives (P:Program) (C:Cx) (ρ:Operand->Value) (o:Oper) (av:AV):Prop:=∃ v w',(execOp ρ o).run P C.w=.ok (.value v) w'/\Below C.w.heap.size C.w w'/\VR (C.at w') av v
theorem Gives.of_has {C:Cx} {ρ:Operand->Value} {o:Oper} {av:AV} {s:Sem Value} (h:Has P C s av) (he:execOp ρ o=(do pure (.value (<- s)))):Gives P C ρ o av:=by
 obtain ⟨v,h1,h2⟩:=h;exact ⟨v,C.w,by rw [he]; simp [h1],C5 _ _,h2⟩
theorem Jw {t:TypeId} {z:List AV} {w:World} (h:Ax P t=some z):∃ v:Value,(zeroValue t).run P w=.ok v w/\z=v.cells.toList.map cst1:=by
 simp only [Ax,Ca,Ig] at h;obtain ⟨v,⟨i,h1,h2⟩,rfl⟩:=h;exact ⟨v,by simp [zeroValue,typeInfo,h1,h2],rfl⟩
theorem Rr {w:World} : ∀ {fs:List Field} {pl:List (Nat × Nat)},Rq P fs=some pl->(fs.mapM (m:=Sem) fun f=>do pure (f.offset,<- jC f.type)).run P w=.ok pl w
 | [],_,h=>by simp only [Rq,A2] at h; subst h; simp
 | f :: fs,_,h=>by
  simp only [Rq] at h;split at h
  ·rename_i s l h1 h2;simp only [A2] at h; subst h;have ih:=Rr (w:=w) h2;rw [List.mapM_cons];simp only [Fj,Er h1,Ev,It,ih]
  ·simp at h
theorem Abh {C:Cx} {ρA:Operand->AV} {ρ:Operand->Value} (hρ:∀ x,VR C (ρA x) (ρ x)) {t:TypeId} {ps:Array (Nat × Operand)} {z:List AV} {pl:List (Nat × Nat)} {av:AV} (hz:Ax P t=some z) (hp:fieldsOf P t=some pl)
  (h:(fillA pl z (ps.toList.map fun (i,x)=>(i,ρA x))).map AV.agg=some av):Has P C (Instr.build t (ps.map fun (i,x)=>(i,ρ x))) av:=by
 simp only [Ca] at h;obtain ⟨ds,h,rfl⟩:=h;obtain ⟨zv,hz1,rfl⟩:=Jw (w:=C.w) hz;unfold fieldsOf at hp;split at hp
 ·rename_i fs hu;have hm:=Rr (w:=C.w) hp;obtain ⟨out,h1,h2,-⟩:=Ve (C:=C) (pl:=pl) (place:=fun i=>pl.toArray[i]?) (us:=ps.toList.map fun (i,x)=>(i,ρ x)) (cells:=zv.cells) (fun i=>by simp [Ae]) h (H5 _) (by simp) (by
   intro k i x j u h1 h2;simp only [Fw,Ca] at h1 h2;obtain ⟨⟨a,b⟩,h3,h4⟩:=h1;obtain ⟨⟨a',b'⟩,h5,h6⟩:=h2;rw [h3] at h5;simp only [A2,Cg] at h5 h4 h6;obtain ⟨rfl,rfl⟩:=h5;obtain ⟨rfl,rfl⟩:=h4;obtain ⟨rfl,rfl⟩:=h6;exact ⟨rfl,hρ _⟩)
  refine ⟨.agg out,?_,by simp only [VR]; exact ⟨out,rfl,h2⟩⟩;have e1:(ps.map fun (i,x)=>(i,ρ x)).toList=ps.toList.map fun (i,x)=>(i,ρ x):=by simp
  have e2:(fs.mapM (m:=Sem) fun f=>do pure (f.offset,<- jC f.type)).run P C.w=.ok pl.toArray C.w:=by
   rw [Array.mapM_eq_mapM_toList,Sem.run_map,hm]; rfl
  simp only [Instr.build,Fj,hz1,Ev,Bk hu,e2,e1,h1,It]
 ·simp at hp
theorem SR.fresh [Globs] {C:Cx} (hs:SR C) {b o:Nat} (hb:C.w.heap.size<=b):¬ C.Avoid b o:=by
 rintro (h|⟨id,hid,h⟩|⟨id,hid,h1,h2,h3⟩)
 ·have:=hs.avlt b o h; omega
 ·obtain ⟨e,he⟩:∃ e,nth C.S id=some e:=⟨C.S[id],by rw [Ae]; exact Il hid⟩;obtain ⟨-,cs,t,h2,-⟩:=hs.ent id e he;have:=(Cj.1 h2).1;omega
 ·have:=hs.tlt id o hid h2 h3;omega
theorem Tu:∀ {e vs r:List AV},vs.length=e.length->puts (e++r) 0 vs=vs++r
 | [],[],_,_=>rfl
 | e :: es,v :: vs,r,h=>by
  simp only [Cr,puts,put];rw [Lc,Tu aJ]
 | [],_ :: _,_,h=>aN
 | _ :: _,[],_,h=>aN
theorem Aao:∀ {e r vs:List AV} {k:Nat},puts (e++r) (e.length+k) vs=e++puts r k vs
 | [],r,vs,k=>by simp
 | e :: es,r,vs,k=>by
  simp only [Cr,Ck];rw [show es.length+1+k=es.length+k+1 from by omega,Lc,Aao]
theorem R0 {sz:Nat} : ∀ {es:List (List AV)} {i:Nat} {vs:List AV},(∀ e ∈ es,e.length=sz)->i<es.length->vs.length=sz->(put es i vs).flatten=puts es.flatten (i*sz) vs
 | e :: es,0,vs,h,_,hv=>by
  simp only [put,Fx,O0];rw [Tu (by rw [hv,h e (by simp)])]
 | e :: es,i+1,vs,h,hi,hv=>by
  simp only [put,Fx];rw [R0 (fun x hx=>h x bJ) (by simpa using hi) hv];rw [show (i+1)*sz=e.length+i*sz from by rw [h e (by simp),Od]; omega,Aao]
 | [],_,_,_,hi,_=>by simp at hi
theorem Jh {α:Type} : ∀ {l:List α} {i:Nat} {v x:α},x ∈ put l i v->x=v\/x ∈ l
 | _ :: _,0,_,_,h=>by simp only [put,Cn] at h ⊢; rcases h with h|h <;> simp [h]
 | y :: l,i+1,v,x,h=>by
  simp only [put,Cn] at h ⊢;rcases h with h|h
  ·simp [h]
  ·rcases Jh h with h|h <;> simp [h]
 | [],_,_,_,h=>by simp [put] at h
theorem Ao {α:Type} : ∀ {l:List α} {i:Nat} {v:α},(put l i v).length=l.length
 | [],_,_=>rfl
 | _ :: _,0,_=>rfl
 | _ :: l,i+1,v=>by simp [put,Ao]
theorem N1:∀ {vs cs:List AV} {o:Nat},(puts cs o vs).length=cs.length
 | [],_,_=>rfl
 | v :: vs,cs,o=>by simp only [puts]; rw [N1,Ao]
theorem Yg {w:World} {A:Nat->Nat->Prop} : ∀ {e r:List AV} {l:List Value},PRs w A (e++r) l->PRs w A e (l.take e.length)/\PRs w A r (l.drop e.length)
 | [],r,l,h=>⟨by simp [PRs],aJ⟩
 | c :: e,r,[],h=>by simp [PRs] at h
 | c :: e,r,v :: l,h=>by
  simp only [Cr,PRs] at h;obtain ⟨h1,h2⟩:=Yg h.2;exact ⟨by simp only [Ck,F1,PRs]; exact ⟨h.1,h1⟩,bR⟩
theorem Hn {w:World} {A:Nat->Nat->Prop} : ∀ {e r:List AV} {l m:List Value},PRs w A e l->PRs w A r m->PRs w A (e++r) (l++m)
 | [],_,[],_,_,h=>h
 | _ :: _,_,_ :: _,_,h,h'=>by simp only [Cr,PRs] at h ⊢; exact ⟨h.1,Hn h.2 h'⟩
 | [],_,_ :: _,_,h,_=>bL
 | _ :: _,_,[],_,h,_=>bL
theorem Kg {w':World} {A:Nat->Nat->Prop} {b:Nat} : ∀ {l:List Value} {o:Nat},(∀ j v,l[j]?=some v->w'.cell? ⟨b,o+j,none⟩=some v/\¬ A b (o+j))->Lie w' A b o l
 | [],_,_=>trivial
 | v :: l,o,h=>⟨by simpa using (h 0 v rfl).1,by simpa using (h 0 v rfl).2,Kg fun j u hu=>by
   have:=h (j+1) u dO;rwa [show o+(j+1)=o+1+j from by omega] at this⟩
theorem Kf {w':World} {A:Nat->Nat->Prop} {b:Nat} : ∀ {l:List Value} {o:Nat},Lie w' A b o l->∀ (j:Nat) (v:Value),l[j]?=some v->w'.cell? ⟨b,o+j,none⟩=some v/\¬ A b (o+j)
 | _ :: _,_,h,0,_,e=>by simp at e; subst e; exact ⟨h.1,h.2.1⟩
 | _ :: l,o,h,j+1,v,e=>by
  have:=Kf h.2.2 j v (by simpa using e);rwa [show o+1+j=o+(j+1) from by omega] at this
 | [],_,_,_,_,e=>by simp at e
theorem Gq {w':World} {A:Nat->Nat->Prop} {b sz:Nat} : ∀ {es:List (List AV)} {o:Nat} {l:List Value},(∀ e ∈ es,e.length=sz)->PRs w' A es.flatten l->Lie w' A b o l->Bf w' A b sz o es
 | [],_,_,_,_,_=>by simp only [Bf]
 | e :: es,o,l,hl,h,xu=>by
  simp only [Bf];simp only [Fx] at h;obtain ⟨h1,h2⟩:=Yg h;have he:=hl e (by simp);refine ⟨he,⟨_,?_,h1⟩,Gq (fun x hx=>hl x bJ) h2 ?_⟩
  ·exact Kg fun j v hj=>Kf xu j v (by
    rw [Iu] at hj;split at hj
    ·exact hj
    ·simp at hj)
  ·rw [<- he]; exact Qj _ xu
theorem Gy {w':World} {A:Nat->Nat->Prop} {b sz:Nat} : ∀ {es:List (List AV)} {o:Nat},Bf w' A b sz o es->∃ l,l.length=es.length*sz/\PRs w' A es.flatten l/\Lie w' A b o l
 | [],_,_=>⟨[],by simp,by simp [PRs],trivial⟩
 | e :: es,o,h=>by
  simp only [Bf] at h;obtain ⟨h1,⟨vs,hl,hp⟩,h3⟩:=h;obtain ⟨l,g1,g2,g3⟩:=Gy h3;have hv:vs.length=sz:=by rw [<- Lp hp,h1]
  refine ⟨vs++l,by simp only [Cs,Ck,Od]; omega,by simp only [Fx]; exact Hn hp g2,?_⟩;refine Kg fun j v hj=>?_;rw [List.getElem?_append] at hj;split at hj
  ·exact Kf hl j v hj
  ·rename_i hn;have:=Kf g3 _ v hj;rwa [show o+sz+(j - vs.length)=o+j from by omega] at this
theorem Ahf {w':World} {A:Nat->Nat->Prop} {b sz:Nat} {out:Array Value} {t:TypeId} {fz:Nat × Nat} (hb:w'.heap[b]?=some (.cells out t fz)) (hA:∀ o,¬ A b o) {es:List (List AV)} {l r:List Value} (hl:∀ e ∈ es,e.length=sz) (h:PRs w' A es.flatten l) (me:out.toList=l++r):Bf w' A b sz 0 es :=
 Gq hl h (Kg fun j v hj=>⟨by
  have dv:out.toList[j]?=some v:=by rw [me,Ct (Fu.1 hj).1]; exact hj
  have:out[j]?=some v:=by simpa using dv
  simp [Fz,hb,this],hA _⟩)
theorem P1 {C:Cx} {sz:Nat} : ∀ {ps:List (Nat × AV)} {us:List (Nat × Value)} {es es':List (List AV)} {cells:Array Value},elemsA sz es ps=some es'->(∀ e ∈ es,e.length=sz)->es.flatten.all pure1=true->VRs C es.flatten cells.toList ->
  ps.length=us.length->(∀ (k i:Nat) (x:AV) (j:Nat) (u:Value),ps[k]?=some (i,x)->us[k]?=some (j,u)->i=j/\VR C x u) ->
  ∃ out,O4 (fun i=>some (i*sz,sz)) cells us=some out/\VRs C es'.flatten out.toList/\(∀ e ∈ es',e.length=sz)/\es'.flatten.all pure1=true/\es'.length=es.length
 | [],[],es,es',cells,h,hl,hp,hc,_,_=>by simp only [elemsA,A2] at h; subst h; exact ⟨cells,rfl,hc,hl,hp,rfl⟩
 | (i,x) :: ps,(j,u) :: us,es,es',cells,h,hl,hp,hc,hlen,aw=>by
  simp only [elemsA] at h;split at h
  ·rename_i vs jg;split at h
   ·rename_i hh;obtain ⟨h1,h2,h3⟩:=hh;obtain ⟨rfl,hxu⟩:=aw 0 i x j u rfl rfl;have hv:=Gr jg (Api hxu);have e1:u.cells.size=sz:=by have:=A3 hv; simp at this; omega
    have hfl:es.flatten.length=es.length*sz:=by
     clear h aw hc hp h3 hlen;induction es with
     | nil=>simp
     | cons e es ih=>simp only [Fx,Cs,Ck]; rw [ih (fun x hx=>hl x bJ),hl e (by simp),Od]; omega
    have e2:i*sz+sz<=cells.size:=by
     have:=A3 hc;simp only [Ih] at this;have h4:(i+1)*sz<=es.length*sz:=Ic _ h3;rw [Od] at h4;omega
    have hf:=R0 hl h3 h1;have b9:VRs C (put es i vs).flatten (u.cells.zipIdx.foldl (fun cs (x:Value × Nat)=>cs.setIfInBounds (i*sz+x.2) x.1) cells).toList:=by
     rw [<- iP,iJ,Q1 (i*sz) u.cells.toList 0 cells,hf];exact Lt hc hv
    have ed:(put es i vs).flatten.all pure1=true:=by
     rw [Cv] at hp h2 ⊢;intro c hc;rw [fN] at hc;obtain ⟨e,he,zp⟩:=hc;rcases Jh he with rfl|he
     ·exact h2 c zp
     ·exact hp c (fN.2 ⟨e,he,zp⟩)
    have m6:∀ e ∈ put es i vs,e.length=sz:=by
     intro e he;rcases Jh he with rfl|he
     ·exact h1
     ·exact hl e he
    obtain ⟨out,k1,k2,k3,k4,k5⟩:=P1 h m6 ed b9 (by simpa using hlen) (fun k i' x' j' u' a b=>aw (k+1) i' x' j' u' (by simpa using a) (by simpa using b));refine ⟨out,?_,k2,k3,k4,by rw [k5,Ao]⟩;have:O4 (fun i=>some (i*sz,sz)) cells ((i,u) :: us)=O4 (fun i=>some (i*sz,sz)) (u.cells.zipIdx.foldl (fun cs (x:Value × Nat)=>cs.setIfInBounds (i*sz+x.2) x.1) cells) us:=by
     simp [O4,e1];omega
    rw [this]; exact k1
   ·simp at h
  ·simp at h
 | [],_ :: _,_,_,_,_,_,_,_,hl,_=>by simp at hl
 | _ :: _,[],_,_,_,_,_,_,_,hl,_=>by simp at hl
theorem Tx (l:List Value) (s:Nat) (hs:l.length=s) (h0:0<s):∀ n,(De (n*s)).map (fun i=>l[i % s]!)=(Ci n l).flatten
 | 0=>by simp
 | n+1=>by
  have ih:=Tx l s hs h0 n;rw [List.replicate_succ',List.flatten_append,<- ih];rw [Od,List.range_add,Ij];congr 1;simp only [iM,Fx,List.flatten_nil,F4];apply List.ext_getElem
  ·simp [hs]
  ·intro i h1 h2;simp only [List.getElem_map,List.getElem_range,Function.comp];have hi:i<s:=aR
   rw [Nat.mul_add_mod_self_right,Sk hi];simp [h2]
theorem Ho (w:World) (e:TypeId) (cells:Array Value):(newRow e cells).run P w=.ok ⟨w.heap.size,0,none⟩ (w.alloc (.cells cells e)):=rfl
theorem An (w:World) (o:Obj):(w.alloc o).heap[w.heap.size]?=some o:=by
 show (w.heap.push o)[w.heap.size]?=some o;simp
theorem Qd [Globs] {C:Cx} (hs:SR C) {ρA:Operand->AV} {ρ:Operand->Value} (hρ:∀ x,VR C (ρA x) (ρ x)) {t e:TypeId} {len sz:Nat} {ps:Array (Nat × Operand)} {z:List AV} {es:List (List AV)} (he:A7 P t=some e) (hsz:szOf P e=some (sz+1)) (hz:Ax P e=some z)
  (hzl:z.length=sz+1) (hzp:(z.all fun c=>pure1 (w1 c))=true) (bh:len*(sz+1)<=4096) (h:elemsA (sz+1) (Ci len (z.map w1)) (ps.toList.map fun (i,x)=>(i,ρA x))=some es) :
  ∃ v w',(gR t len (ps.map fun (i,x)=>(i,ρ x))).run P C.w=.ok v w'/\Below C.w.heap.size C.w w'/\VR (C.at w') (.frz es .tight) v:=by
 obtain ⟨zv,hz1,rfl⟩:=Jw (w:=C.w) hz;have sd:zv.cells.size=sz+1:=by simpa using hzl
 have hz0:VRs C (Ci len ((zv.cells.toList.map cst1).map w1)).flatten (Ci len zv.cells.toList).flatten:=by
  clear h bh;induction len with
  | zero=>simp [VRs]
  | succ n ih=>simp only [Lg,Fx]; exact Gz (U6 (H5 _)) ih
 have hcells:((S7 (len*(sz+1))).map fun i=>zv.cells[i % zv.cells.size]!).toList=(Ci len zv.cells.toList).flatten:=by
  rw [<- Tx zv.cells.toList (sz+1) (by simpa using sd) aA len];simp [sd,Array.toList_range];intro a _; rw [getElem!_def]; cases zv.cells[a % (sz+1)]? <;> rfl
 obtain ⟨out,h1,h2,h3,h4,h5⟩:=P1 (C:=C) (us:=ps.toList.map fun (i,x)=>(i,ρ x)) (cells:=(S7 (len*(sz+1))).map fun i=>zv.cells[i % zv.cells.size]!) h (by
   intro e he; rw [Im] at he; rw [he.2]; simpa using hzl) (by
   rw [Cv] at hzp ⊢;intro c hc;rw [fN] at hc;obtain ⟨l,hl,hc⟩:=hc;rw [Im] at hl;rw [hl.2,F9] at hc;obtain ⟨c',b9,rfl⟩:=hc;exact hzp c' b9) (by rw [hcells]; exact hz0) (by simp) (by
   intro k i x j u h1 h2;simp only [Fw,Ca] at h1 h2;obtain ⟨⟨a,b⟩,h3,h4⟩:=h1;obtain ⟨⟨a',b'⟩,h5,h6⟩:=h2;rw [h3] at h5;simp only [A2,Cg] at h5 h4 h6;obtain ⟨rfl,rfl⟩:=h5;obtain ⟨rfl,rfl⟩:=h4;obtain ⟨rfl,rfl⟩:=h6;exact ⟨rfl,hρ _⟩)
 have hb:Below C.w.heap.size C.w (C.w.alloc (.cells out e)):=(C5 _ _).alloc (Cc _) _;refine ⟨.slice (some ⟨C.w.heap.size,0,none⟩) len len,C.w.alloc (.cells out e),?_,hb,?_⟩
 ·have e1:(ps.map fun (i,x)=>(i,ρ x)).toList=ps.toList.map fun (i,x)=>(i,ρ x):=by simp
  have xt:¬ (len*(sz+1) > 2 ^ 24):=aA
  simp only [gR,Fj,Bk (Dy he),Er hsz,Ev,Sem.run_ite];rw [if_neg xt];by_cases hl:len*(sz+1)=0
  ·rw [if_pos hl];have ie:len=0:=by
    rcases Nat.mul_eq_zero.1 hl with h|h
    ·exact h
    ·omega
   subst ie;have e0:∀ (f:Nat->Value),(S7 (0*(sz+1))).map f=#[]:=fun f=>by simp
   rw [e0] at h1;simp only [It,Ev,e1,e0,h1,Fj,Ho]
  ·rw [if_neg hl];simp only [hz1,Ev,e1,h1,Fj,It,Ho]
 ·simp only [VR];refine ⟨_,len,len,rfl,by simpa using h5,Cc _,rfl,?_⟩;by_cases ua:es=[]
  ·exact .inl ua
  ·right;refine ⟨C.w.heap.size,0,sz+1,rfl,?_⟩;have zq:∀ o,¬ (C.at (C.w.alloc (.cells out e))).Avoid C.w.heap.size o:=fun o=>hs.fresh (Cc _);have h6:=VRs.mono (Le.of_below hb) _ _ h2;exact Ahf (out:=out) (t:=e) (fz:=(0,0)) (r:=[]) (An _ _) zq h3 (Jj h4 h6) (by simp)
theorem Akc:∀ {vs cs:List AV},cs.length=vs.length->over cs 0 vs=some vs
 | [],[],_=>rfl
 | v :: vs,c :: cs,h=>by simp only [over,Akc (vs:=vs) (cs:=cs) aJ,C3]
 | [],_ :: _,h=>aN
 | _ :: _,[],h=>aN
theorem Wd {C:Cx} : ∀ vs:List Value,VRs C (Ci vs.length AV.bot) vs
 | []=>by simp [VRs]
 | _ :: vs=>by simp only [Ck,Lg,VRs,VR]; exact ⟨trivial,Wd vs⟩
theorem Af2 [Globs] {C:Cx} (hs:SR C) {ρA:Operand->AV} {ρ:Operand->Value} (hρ:∀ x,VR C (ρA x) (ρ x)) {t e:TypeId} {len sz:Nat} {ps:Array (Nat × Operand)} {z:List AV} {av:AV} (he:A7 P t=some e) (hsz:szOf P e=some (sz+1)) (hz:Ax P e=some z)
  (hzl:z.length=sz+1) (bh:len*(sz+1)<=4096) (h:lit1 (sz+1) len (ps.toList.map fun (i,x)=>(i,ρA x))=some av) :
  ∃ v w',(gR t len (ps.map fun (i,x)=>(i,ρ x))).run P C.w=.ok v w'/\Below C.w.heap.size C.w w'/\VR (C.at w') av v:=by
 obtain ⟨zv,hz1,rfl⟩:=Jw (w:=C.w) hz;have sd:zv.cells.size=sz+1:=by simpa using hzl
 unfold lit1 at h;split at h
 ·rename_i x ot;split at h
  ·rename_i vs jg;split at h
   ·rename_i hh;simp only [A2] at h; subst h;obtain ⟨y,hy,ii⟩:∃ y,ps.toList=[(0,y)]/\ρA y=x:=by
     match hl:ps.toList with
     | [(i,y)] =>
      rw [hl] at ot;simp only [Cp,Fi,I6,Cg,and_true] at ot;obtain ⟨rfl,h2⟩:=ot;exact ⟨y,rfl,h2⟩
     | []=>rw [hl] at ot; simp at ot
     | _ :: _ :: _=>rw [hl] at ot; simp at ot
    subst ii;have hv:=Gr jg (hρ y);have hvl:=A3 hv;have e1:(ρ y).cells.size=sz+1:=by simp at hvl; omega
    obtain ⟨cells,hcd⟩:∃ cells,cells=(S7 (1*(sz+1))).map fun i=>zv.cells[i % zv.cells.size]!:=⟨_,rfl⟩;have a1q:cells.size=sz+1:=by rw [hcd]; simp
    have jy:over (Ci cells.toList.length AV.bot) 0 vs=some vs:=Akc aB;obtain ⟨h1,h2⟩:=Jp jy;obtain ⟨out,l8⟩:∃ out,out=((ρ y).cells.zipIdx.foldl (fun cs (x:Value × Nat)=>cs.setIfInBounds (0*(sz+1)+x.2) x.1) cells):=⟨_,rfl⟩;have me:VRs C vs out.toList:=by
     rw [l8,<- iP,iJ,Q1 (0*(sz+1)) (ρ y).cells.toList 0 cells,h1];simp only [O0];exact Lt (Wd _) hv
    have a07:O4 (fun i=>some (i*(sz+1),sz+1)) cells [(0,ρ y)]=some out:=by
     have:O4 (fun i=>some (i*(sz+1),sz+1)) cells [(0,ρ y)]=O4 (fun i=>some (i*(sz+1),sz+1)) ((ρ y).cells.zipIdx.foldl (fun cs (x:Value × Nat)=>cs.setIfInBounds (0*(sz+1)+x.2) x.1) cells) []:=by
      simp [O4,e1,a1q]
     rw [this,<- l8]; rfl
    have hb:Below C.w.heap.size C.w (C.w.alloc (.cells out e)):=(C5 _ _).alloc (Cc _) _;refine ⟨.slice (some ⟨C.w.heap.size,0,none⟩) 1 1,C.w.alloc (.cells out e),?_,hb,?_⟩
    ·have e2:(ps.map fun (i,x)=>(i,ρ x)).toList=[(0,ρ y)]:=dE
     have xt:¬ (1*(sz+1) > 2 ^ 24):=aA
     simp only [gR,Fj,Bk (Dy he),Er hsz,Ev,Sem.run_ite];rw [if_neg xt,if_neg aA];simp only [hz1,Ev,e2,<- hcd,a07,Fj,It,Ho]
    ·simp only [VR];refine ⟨C.w.heap.size,out.toList,rfl,Kg fun j v hj=>⟨?_,hs.fresh (Cc _)⟩,VRs.mono (Le.of_below hb) _ _ me⟩;show (C.w.alloc (.cells out e)).cell? _=_;simp only [Fg,Fz,An];simpa using hj
   ·simp at h
  ·simp at h
 ·simp at h
theorem Aac {t:TypeId} {m:String} {f:FuncId} (h:mRow P t m=some f):∃ i r p,P.info? t=some i/\i.methods.find? (·.name == m)=some r/\r.path=#[]/\r.func=some (f,p)/\((p=true/\∃ e,P.underlying t=some (.pointer e))\/(p=false/\∃ fs,P.underlying t=some (.struct fs))):=by
 unfold mRow at h;split at h
 ·rename_i r hr;simp only [Ig] at hr;obtain ⟨i,h1,h2⟩:=hr;split at h
  ·rename_i hp;have ed:r.path=#[]:=by simpa using hp
   split at h
   ·rename_i f' e h3 h4;simp only [A2] at h; subst h;exact ⟨i,r,true,h1,h2,ed,h3,.inl ⟨rfl,e,h4⟩⟩
   ·rename_i f' fs h3 h4;simp only [A2] at h; subst h;exact ⟨i,r,false,h1,h2,ed,h3,.inr ⟨rfl,fs,h4⟩⟩
   ·simp at h
  ·simp at h
 ·simp at h
theorem Up {w:World} {t:TypeId} {m:String} {u:Value} (h:(mRow P t m).isSome=true):(nilAhead (P.types.size+gD) t u m).run P w=.ok (some false) w:=by
 obtain ⟨f,hf⟩:=Si.1 h;obtain ⟨i,r,p,h1,h2,h3,h4,h5⟩:=Aac hf;have hd:P.types.size+gD=(P.types.size+gD - 1)+1:=by
   have:0<gD:=aH
   omega
 rw [hd];rcases h5 with ⟨rfl,e,h5⟩|⟨rfl,fs,h5⟩
 ·simp [nilAhead,typeInfo,h1,h2,h3,h4,followBlind]
 ·simp [nilAhead,typeInfo,h1,h2,h3,h4,followBlind,Bk h5]
theorem Af8 {w:World} {t:TypeId} {m:String} {f:FuncId} {u:Value} (h:mRow P t m=some f):(method (P.types.size+gD) t u m).run P w=.ok (f,u) w:=by
 obtain ⟨i,r,p,h1,h2,h3,h4,h5⟩:=Aac h;have hd:P.types.size+gD=(P.types.size+gD - 1)+1:=by
   have:0<gD:=aH
   omega
 rw [hd];rcases h5 with ⟨rfl,e,h5⟩|⟨rfl,fs,h5⟩
 ·exact Ya39
 ·exact Ya39
theorem Vm {C:Cx} {x:AV} {v:Value} {n:Nat} (hx:VR C x v) (h:lenA x=some n):∃ a cap,v=.slice a n cap:=by
 unfold lenA at h;split at h
 ·simp only [A2] at h; subst h;simp only [VR] at hx;obtain ⟨a,len,cap,rfl,e,-⟩:=hx;exact ⟨a,cap,by rw [e]⟩
 ·simp only [A2] at h; subst h;simp only [VR] at hx;obtain ⟨b,a,cap,rfl,-⟩:=hx;exact ⟨a,cap,rfl⟩
 ·simp at h
theorem Lr {C:Cx} {ρA:Operand->AV} {ρ:Operand->Value} (hρ:∀ x,VR C (ρA x) (ρ x)):∀ l:List Operand,VRs C (l.map ρA) (l.map ρ)
 | []=>dH
 | x :: l=>by simp only [Cp,VRs]; exact ⟨hρ x,Lr hρ l⟩
theorem Abv {t:TypeId} (h:R6 P t=true):∃ e,P.underlying t=some (.slice e)/\P.underlying e=some (.int .u8):=by
 unfold R6 at h;cases he:A7 P t with
 | none=>rw [he] at h; simp at h
 | some e =>
  rw [he] at h;simp only [I7] at h;cases hk:Jm P e with
  | none=>rw [hk] at h; simp at h
  | some k =>
   rw [hk] at h;cases k <;> simp at h;exact ⟨e,Dy he,Ph hk⟩
theorem Aiq [Globs] {C:Cx} (hs:SR C) {ρ:Operand->Value} {o:Oper} {s d:TypeId} {x:Operand} {ax av:AV} (hx:VR C ax (ρ x)) (e:o.op=.convert s d x) (h:cvA P s d ax=some av):Gives P C ρ o av:=by
 unfold cvA at h;split at h
 ·rename_i b;split at h
  ·rename_i hh;simp only [Ch,decide_eq_true_eq] at hh;obtain ⟨⟨h1,h2⟩,h3⟩:=hh;simp only [A2] at h; subst h;obtain ⟨el,g1,g2⟩:=Abv h2;simp only [VR] at hx;have hb:Below C.w.heap.size C.w (Lib.bytesWorld C.w el b):=Lib.bytesWorld_below C.w el b;refine ⟨.slice (some ⟨C.w.heap.size,0,none⟩) b.size (grownCap C.w b.size 0 el),Lib.bytesWorld C.w el b,?_,hb,?_⟩
   ·simp only [execOp,e,hx,Fj,Lib.run_convert_string_bytes C.w s d el b (Hu h1) g1 g2,Ev,It]
   ·have hg:=grownCap_ge C.w b.size 0 el;simp only [VR];refine ⟨_,b.size,_,rfl,by simp [bytesL],hg,trivial,.inr ⟨C.w.heap.size,0,1,rfl,?_⟩⟩;have l9:∀ (A:Nat->Nat->Prop) (w:World) (l:List UInt8),PRs w A (l.map fun x=>([.prim (.int .u8 x.toNat)]:List AV)).flatten (l.map fun x=>Sl .u8 (x.toNat:Int)):=by
     intro A w l;induction l with
     | nil=>simp [PRs]
     | cons x l ih=>simp only [Cp,Fx,Cr,Cw,PRs]; exact ⟨by simp [PR,S8],ih⟩
    refine Gq (l:=b.data.toList.map fun x=>Sl .u8 (x.toNat:Int)) (fun q hq=>?_) (l9 _ _ _) (Kg fun j v hj=>⟨?_,hs.fresh (Cc _)⟩)
    ·unfold bytesL at hq;rw [F9] at hq;obtain ⟨x,-,rfl⟩:=hq;rfl
    ·have dv:j<b.size:=by
      have:=(Fu.1 hj).1;rw [Fq,Ih] at this;exact this
     rw [Fg];show (Lib.bytesWorld C.w el b).cell? _=_;rw [Lib.bytesWorld_cell C.w el b j dv,<- hj];simp only [Fw,List.getD];have:j<b.data.toList.length:=by rw [Ih]; exact dv
     rw [Il this];rfl
  ·exact .of_has (Q9 hx h) bE
 ·exact .of_has (Q9 hx h) bE
theorem Aa3 {C:Cx} {x y:AV} {l:List Value} (h:VRs C [x,y] l):∃ u v,l=[u,v]:=by
 match l,h with
 | [u,v],_=>exact ⟨u,v,rfl⟩
 | [],h=>simp only [VRs] at h
 | [_],h=>simp only [VRs,and_false] at h
 | _ :: _ :: _ :: _,h=>simp only [VRs,and_false] at h
theorem Ai1 [Globs] {C:Cx} (hs:SR C) {ρA:Operand->AV} {ρ:Operand->Value} (hρ:∀ x,VR C (ρA x) (ρ x)) {o:Oper} {av:AV} (h:evQ P o ρA=some av):Gives P C ρ o av:=by
 unfold evQ at h;split at h;case h_1 x e=>simp only [A2] at h; subst h; exact .of_has (s:=pure (ρ x)) ⟨_,rfl,hρ x⟩ (by simp [execOp,e])
 case h_2 x e=>simp only [A2] at h; subst h; exact .of_has (s:=pure (ρ x)) ⟨_,rfl,hρ x⟩ (by simp [execOp,e])
 case h_3 c a b e =>
  split at h
  ·rename_i t hc
   simp only [A2] at h; subst h
   have hv:=hρ c
   rw [hc] at hv; simp only [VR] at hv
   refine ⟨if t then ρ a else ρ b,C.w,by simp [execOp,e,hv,asBool],C5 _ _,?_⟩
   cases t
   ·exact hρ b
   ·exact hρ a
  ·simp at h
 case h_4 b t x y e' e=>exact .of_has (Afk (ox:=x) (oy:=y) (hρ x) (hρ y) h) bE
 case h_5 u t x e=>exact .of_has (Ahs (hρ x) h) bE
 case h_6 s d x e=>exact Aiq hs (hρ x) e h
 case h_7 t i e =>
  split at h
  ·rename_i vs hc
   have hv:=hρ t
   rw [hc] at hv; simp only [VR] at hv
   obtain ⟨us,e2,hv⟩:=hv
   obtain ⟨v,h1,h2⟩:=U5 hv h
   exact .of_has (s:=Instr.extract (ρ t) i) ⟨v,by rw [e2]; simp at h1; simp [Instr.extract,h1],h2⟩ bE
  ·simp at h
 case h_8 t x k e =>
  split at h
  ·rename_i off sz b cs hf hc
   obtain ⟨fs,f,hu,hfk,h1,h2,h3,h4⟩:=Ml hf
   have hv:=hρ x
   rw [hc] at hv; simp only [VR] at hv
   obtain ⟨us,e2,hv⟩:=hv
   obtain ⟨v,g1,g2⟩:=Agc h2 h3 hv h
   exact .of_has (s:=Instr.field t (ρ x) k) ⟨v,by rw [e2]; simp [Instr.field,Bk hu,hfk,asAgg,h1,g1],g2⟩ bE
  ·simp at h
 case h_9 t x i e=>exact .of_has (Afw (hρ x) (hρ i) h) bE
 case h_10 t x k e=>exact .of_has (Aft (hρ x) h) bE
 case h_11 t x i e =>
  split at h
  ·rename_i s k hc hk
   split at h
   ·rename_i ht
    simp only [Ca] at h
    obtain ⟨b,hb,rfl⟩:=h
    have hv:=hρ x
    rw [hc] at hv; simp only [VR] at hv
    obtain ⟨ki,ov⟩:=Ej hk (hρ i)
    refine .of_has (s:=Instr.index t (ρ x) (ρ i)) (.mk ?_) bE
    rw [hv,ov]
    simp [Instr.index,asIntOf,Bk (Hu ht),hb]
   ·simp at h
  ·simp at h
 case h_12 t ps e =>
  split at h
  ·rename_i z pl hz hp
   exact .of_has (Abh hρ hz hp h) bE
  ·simp at h
 case h_13 t len ps e =>
  split at h
  ·rename_i el he
   split at h
   ·rename_i sz z hsz hz
    split at h
    ·rename_i hh
     obtain ⟨h1,h2,h3⟩:=hh
     unfold Agb at h
     split at h
     ·rename_i es ua
      simp only [A2] at h; subst h
      obtain ⟨v,w',g1,g2,g3⟩:=Qd hs hρ he hsz hz h1 h2 h3 ua
      exact ⟨v,w',Za1e,g2,g3⟩
     ·obtain ⟨v,w',g1,g2,g3⟩:=Af2 hs hρ he hsz hz h1 h3 h
      exact ⟨v,w',Za1e,g2,g3⟩
    ·simp at h
   ·simp at h
  ·simp at h
 case h_14 t x lo hi mx e=>exact .of_has (Aaw (hρ x) (V4 hρ lo) (V4 hρ hi) (V4 hρ mx) h) bE
 case h_15 f first caps e =>
  split at h
  ·rename_i hh
   simp only [A2] at h; subst h
   have hf:first=#[]:=by simpa using hh.1
   refine .of_has (s:=S9 (.func f) (first.map ρ) (caps.map ρ)) ⟨.func (.func f) #[] (caps.map ρ),by simp [S9,hf],?_⟩ bE
   simp only [VR]
   exact ⟨_,rfl,Za3z⟩
  ·split at h
   ·rename_i hh
    simp only [A2] at h; subst h
    have hf:caps=#[]:=by simpa using hh
    refine .of_has (s:=S9 (.func f) (first.map ρ) (caps.map ρ)) ⟨.func (.func f) (first.map ρ) #[],by simp [S9,hf],?_⟩ bE
    simp only [VR]
    exact ⟨_,rfl,Za3z⟩
   ·simp at h
 case h_16 c e =>
  split at h
  ·rename_i hb
   have aa:=Lr hρ c.args.toList
   split at h
   ·rename_i s t hc ht
    split at h
    ·rename_i ah
     simp only [A2] at h; subst h
     rw [hc] at aa
     obtain ⟨u,hu⟩:∃ u,c.args.toList.map ρ=[u]:=by
      exact Ya36
     rw [hu] at aa
     simp only [VRs,VR,and_true] at aa
     have ha:c.args.map ρ=#[.string s]:=by rw [<- fO]; simp [hu,aa]
     refine ⟨.int .i64 s.size,C.w,?_,C5 _ _,bM⟩
     have y3:c.argTypes=#[t]:=cQ
     simp [execOp,e,resolve,hb,ha,invoke,builtin,Builtin.len_,y3,Bk (Hu ah),goInt]
    ·simp at h
   ·rename_i x t _ hc ht
    split at h
    ·rename_i ah
     simp only [Ca] at h
     obtain ⟨n,hn,rfl⟩:=h
     rw [hc] at aa
     obtain ⟨u,hu⟩:∃ u,c.args.toList.map ρ=[u]:=by
      exact Ya36
     rw [hu] at aa
     simp only [VRs,and_true] at aa
     obtain ⟨a,cap,rfl⟩:=Vm aa hn
     have ha:c.args.map ρ=#[.slice a n cap]:=cK
     obtain ⟨el,he⟩:=Si.1 ah
     refine ⟨.int .i64 n,C.w,?_,C5 _ _,bM⟩
     have y3:c.argTypes=#[t]:=cQ
     simp [execOp,e,resolve,hb,ha,invoke,builtin,Builtin.len_,y3,Bk (Dy he),goInt]
    ·simp at h
   ·simp at h
  ·rename_i hb
   have aa:=Lr hρ c.args.toList
   split at h
   ·rename_i x y hc
    rw [hc] at aa
    obtain ⟨u,v,hu⟩:=Aa3 aa
    rw [hu] at aa
    simp only [VRs,and_true] at aa
    have ha:c.args.map ρ=#[u,v]:=cK
    unfold minA at h
    split at h
    ·split at h
     ·rename_i hk
      subst hk
      simp only [A2] at h; subst h
      simp only [VR] at aa
      obtain ⟨rfl,rfl⟩:=aa
      refine ⟨_,C.w,?_,C5 _ _,by simp only [VR]; rfl⟩
      simp [execOp,e,resolve,hb,ha,invoke,builtin,Builtin.min_,Builtin.min2]
     ·simp at h
    ·simp at h
   ·simp at h
  ·rename_i hb
   have aa:=Lr hρ c.args.toList
   split at h
   ·rename_i x y hc
    rw [hc] at aa
    obtain ⟨u,v,hu⟩:=Aa3 aa
    rw [hu] at aa
    simp only [VRs,and_true] at aa
    have ha:c.args.map ρ=#[u,v]:=cK
    unfold maxA at h
    split at h
    ·split at h
     ·rename_i hk
      subst hk
      simp only [A2] at h; subst h
      simp only [VR] at aa
      obtain ⟨rfl,rfl⟩:=aa
      refine ⟨_,C.w,?_,C5 _ _,by simp only [VR]; rfl⟩
      simp [execOp,e,resolve,hb,ha,invoke,builtin,Builtin.max_,Builtin.max2]
     ·simp at h
    ·simp at h
   ·simp at h
  ·simp at h
 case h_17 m first caps e =>
  split at h
  ·rename_i x hf hcp
   unfold mthA at h
   split at h
   ·rename_i t v hv
    simp only [A2] at h; subst h
    have hx:=hρ x
    rw [hv] at hx
    simp only [VR] at hx
    obtain ⟨u,hu,hvu⟩:=hx
    have e1:first.map ρ=#[.iface t u]:=by rw [<- fO]; simp [hf,hu]
    have e2:caps.map ρ=#[]:=by rw [<- fO]; simp [hcp]
    refine .of_has (s:=S9 (.method m) (first.map ρ) (caps.map ρ)) ⟨.func (.method m) #[.iface t u] #[],by rw [e1,e2]; simp [S9],?_⟩ bE
    simp only [VR]
    exact ⟨u,rfl,hvu⟩
   ·simp at h
  ·simp at h
 case h_18 t x e =>
  split at h
  ·simp at h
  ·rename_i hi
   simp only [A2] at h; subst h
   obtain ⟨ut,hut,hni⟩:∃ ut,P.underlying t=some ut/\∀ ms,ut≠.interface ms:=by
    unfold Afy at hi;split at hi
    ·simp at hi
    ·simp at hi
    ·rename_i h1 h2;cases hu:P.underlying t with
     | none=>exact absurd hu h2
     | some ut=>exact ⟨ut,rfl,fun ms hms=>h1 ms (by rw [hu,hms])⟩
   refine .of_has (s:=Instr.makeInterface t (ρ x)) ⟨.iface t (ρ x),?_,?_⟩ bE
   ·simp only [Instr.makeInterface,Fj,Bk hut,Ev]
    cases ut <;> first|rfl|exact absurd rfl (hni _)
   ·simp only [VR]
    exact ⟨_,rfl,hρ x⟩
 case h_19 x e =>
  have hx:=hρ x
  unfold chkM at h
  split at h
  ·rename_i t m v hv
   split at h
   ·rename_i hm
    simp only [A2] at h; subst h
    rw [hv] at hx
    have hx':=hx
    simp only [VR] at hx'
    obtain ⟨u,hb,-⟩:=hx'
    refine ⟨ρ x,C.w,?_,C5 _ _,hx⟩
    have hna:=Up (P:=P) (w:=C.w) (u:=u) hm
    simp [execOp,e,hb,hna]
   ·simp at h
  unfold chkA at h
  split at h
  ·rename_i id ep off hv
   simp only [A2] at h; subst h
   rw [hv] at hx
   have hx':=hx
   simp only [VR] at hx'
   obtain ⟨b,hb,-⟩:=hx'
   exact ⟨ρ x,C.w,dJ,C5 _ _,hx⟩
  ·rename_i cs hv
   simp only [A2] at h; subst h
   rw [hv] at hx
   have hx':=hx
   simp only [VR] at hx'
   obtain ⟨b,o,vs,hb,-⟩:=hx'
   exact ⟨ρ x,C.w,dJ,C5 _ _,hx⟩
  ·rename_i f caps hv
   simp only [A2] at h; subst h
   rw [hv] at hx
   have hx':=hx
   simp only [VR] at hx'
   obtain ⟨vs,hb,-⟩:=hx'
   exact ⟨ρ x,C.w,dJ,C5 _ _,hx⟩
  ·rename_i f first hv
   simp only [A2] at h; subst h
   rw [hv] at hx
   have hx':=hx
   simp only [VR] at hx'
   obtain ⟨vs,hb,-⟩:=hx'
   exact ⟨ρ x,C.w,dJ,C5 _ _,hx⟩
  ·rename_i t v hv
   simp only [A2] at h; subst h
   rw [hv] at hx
   have hx':=hx
   simp only [VR] at hx'
   obtain ⟨u,hb,-⟩:=hx'
   exact ⟨ρ x,C.w,dJ,C5 _ _,hx⟩
  ·simp at h
 ·simp at h
end
end
end Go.Proofs.YtcandeobhlfkbaaGreat
