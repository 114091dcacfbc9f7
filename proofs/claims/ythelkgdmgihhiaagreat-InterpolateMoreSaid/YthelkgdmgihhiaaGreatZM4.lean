/- Part 4. -/
import Derived.Test.YthelkgdmgihhiaaGreatZM3
import Derived.Lib.ConvBytes
import Derived.Lib.AtoiErrMem
import Derived.Below
open Array renaming getElem?_eq_some_iff->Ci,length_toList->Ii,range->So,toList_inj->Su,toList_zipIdx->iD,foldl_toList->iL
open Bool renaming and_eq_true->Cf
open Go renaming sizeOf->iX
open Go.Instr renaming fill->Oo,makeFunc->Sp,buildSlice->gF
open Go.Made renaming depth->fK
open Go.Result renaming andThen_ok->Ea
open Go.RowKit.Below renaming refl->Fb,cell->iY
open Go.Sem renaming run_bind->Fe,run_pure->Im
open Go.Value renaming int->fO,oneCell'->fU
open Go.World renaming cell?->It
open List renaming replicate->Cd,length_cons->Ck,map_cons->Cm,length_append->Cn,cons_append->Co,getElem?_append_left->Cp,nil_append->Ct,map_nil->Cw,mem_cons->Cy,all_eq_true->Cz,flatten_cons->Fm,getElem?_eq_some_iff->Fq,map_append->Ft,append_nil->Fu,getElem?_map->Fw,mem_map->Fy,take_succ_cons->F4,range->F9,length_map->Ib,getElem?_eq_getElem->Ig,mem_replicate->Ih,getElem?_take->Iw,replicate_succ->I4,mem_flatten->O5,flatten_nil->gE,flatten_append->iE,map_map->iH
open List.cons renaming injEq->S9
open Nat renaming le_refl->Cb,lt_of_lt_of_le->Fi,zero_add->Fo,mul_le_mul_right->F0,succ_mul->Mi,zero_mul->Oi,mod_eq_of_lt->O6
open Option renaming map_eq_some_iff->B6,map_some->Cu,bind_eq_some_iff->Ie,bind_some->Lg,isSome_iff_exists->O2
open Option.some renaming injEq->A0
open Prod.mk renaming injEq->Cc
namespace Go.Proofs.YthelkgdmgihhiaaGreat
section
open Go.RowKit
section
variable {P:Program}
def Cx.at (C:Cx) (w:World):Cx:={ C with w:=w }
theorem Dc {w w':World} (h:Below w.heap.size w w') {b:Nat} {o:Obj} (hb:w.heap[b]?=some o):w'.heap[b]?=some o:=by
 rw [h.block b (Ci.1 hb).1]; exact hb
theorem Le.of_below {C:Cx} {w':World} (h:Below C.w.heap.size C.w w'):Le C (C.at w') :=
 ⟨h.os,h.tape,h.output,h.size,rfl,Cb _,fun _ _ _ m=>m,fun b o v hv _=>by rw [show (C.at w').w=w' from rfl,iY h (E2 hv)]; exact hv,fun b hb _=>h.block b hb,
  fun b cs t fz hb=>⟨cs,Dc h hb,rfl⟩,fun _ e' he _=>⟨e',he,rfl,rfl⟩,fun _ k hk=>⟨k,hk,Cb _,fun _=>rfl⟩⟩
theorem SR.of_below [Globs] {C:Cx} {w':World} (hs:SR C) (h:Below C.w.heap.size C.w w'):SR (C.at w'):=by
 have hle:=Le.of_below h;refine ⟨fun id e he=>?_,hs.ne,hs.tok,hs.apart,hs.own,fun b o ha=>Fi (hs.avlt b o ha) h.size,fun i o hi h1 h2=>Fi (hs.tlt i o hi h1 h2) h.size,Np hs hle⟩;obtain ⟨h1,cs,t,h2,vs,r,h3,h4⟩:=hs.ent id e he;exact ⟨h1,cs,t,Dc h h2,vs,r,h3,VRs.mono hle _ _ h4⟩
def Gives (P:Program) (C:Cx) (ρ:Operand->Value) (o:Oper) (av:AV):Prop:=∃ v w',(execOp ρ o).run P C.w=.ok (.value v) w'/\Below C.w.heap.size C.w w'/\VR (C.at w') av v
theorem Gives.of_has {C:Cx} {ρ:Operand->Value} {o:Oper} {av:AV} {s:Sem Value} (h:Has P C s av) (he:execOp ρ o=(do pure (.value (<- s)))):Gives P C ρ o av:=by
 obtain ⟨v,h1,h2⟩:=h;exact ⟨v,C.w,by rw [he]; simp [h1],Fb _ _,h2⟩
theorem Jk {t:TypeId} {z:List AV} {w:World} (h:Ar P t=some z):∃ v:Value,(zeroValue t).run P w=.ok v w/\z=v.cells.toList.map cst1:=by
 simp only [Ar,B6,Ie] at h;obtain ⟨v,⟨i,h1,h2⟩,rfl⟩:=h;exact ⟨v,by simp [zeroValue,typeInfo,h1,h2],rfl⟩
theorem Qv {w:World} : ∀ {fs:List Field} {pl:List (Nat × Nat)},Qu P fs=some pl->(fs.mapM (m:=Sem) fun f=>do pure (f.offset,<- iX f.type)).run P w=.ok pl w
 | [],_,h=>by simp only [Qu,A0] at h; subst h; simp
 | f :: fs,_,h=>by
  simp only [Qu] at h;split at h
  ·rename_i s l h1 h2;simp only [A0] at h; subst h;have ih:=Qv (w:=w) h2;rw [List.mapM_cons];simp only [Fe,Eg h1,Ea,Im,ih]
  ·simp at h
theorem Ze {C:Cx} {ρA:Operand->AV} {ρ:Operand->Value} (hρ:∀ x,VR C (ρA x) (ρ x)) {t:TypeId} {ps:Array (Nat × Operand)} {z:List AV} {pl:List (Nat × Nat)} {av:AV} (hz:Ar P t=some z) (hp:fieldsOf P t=some pl)
  (h:(fillA pl z (ps.toList.map fun (i,x)=>(i,ρA x))).map AV.agg=some av):Has P C (Instr.build t (ps.map fun (i,x)=>(i,ρ x))) av:=by
 simp only [B6] at h;obtain ⟨ds,h,rfl⟩:=h;obtain ⟨zv,hz1,rfl⟩:=Jk (w:=C.w) hz;unfold fieldsOf at hp;split at hp
 ·rename_i fs hu;have hm:=Qv (w:=C.w) hp;obtain ⟨out,h1,h2,-⟩:=T2 (C:=C) (pl:=pl) (place:=fun i=>pl.toArray[i]?) (us:=ps.toList.map fun (i,x)=>(i,ρ x)) (cells:=zv.cells) (fun i=>by simp [Ae]) h (Hw _) (by simp) (by
   intro k i x j u h1 h2;simp only [Fw,B6] at h1 h2;obtain ⟨⟨a,b⟩,h3,h4⟩:=h1;obtain ⟨⟨a',b'⟩,h5,h6⟩:=h2;rw [h3] at h5;simp only [A0,Cc] at h5 h4 h6;obtain ⟨rfl,rfl⟩:=h5;obtain ⟨rfl,rfl⟩:=h4;obtain ⟨rfl,rfl⟩:=h6;exact ⟨rfl,hρ _⟩)
  refine ⟨.agg out,?_,by simp only [VR]; exact ⟨out,rfl,h2⟩⟩;have e1:(ps.map fun (i,x)=>(i,ρ x)).toList=ps.toList.map fun (i,x)=>(i,ρ x):=by simp
  have e2:(fs.mapM (m:=Sem) fun f=>do pure (f.offset,<- iX f.type)).run P C.w=.ok pl.toArray C.w:=by
   rw [Array.mapM_eq_mapM_toList,Sem.run_map,hm]; rfl
  simp only [Instr.build,Fe,hz1,Ea,Bf hu,e2,e1,h1,Im]
 ·simp at hp
theorem SR.fresh [Globs] {C:Cx} (hs:SR C) {b o:Nat} (hb:C.w.heap.size<=b):¬ C.Avoid b o:=by
 rintro (h|⟨id,hid,h⟩|⟨id,hid,h1,h2,h3⟩)
 ·have:=hs.avlt b o h; omega
 ·obtain ⟨e,he⟩:∃ e,nth C.S id=some e:=⟨C.S[id],by rw [Ae]; exact Ig hid⟩;obtain ⟨-,cs,t,h2,-⟩:=hs.ent id e he;have:=(Ci.1 h2).1;omega
 ·have:=hs.tlt id o hid h2 h3;omega
theorem Rm:∀ {e vs r:List AV},vs.length=e.length->puts (e++r) 0 vs=vs++r
 | [],[],_,_=>rfl
 | e :: es,v :: vs,r,h=>by
  simp only [Co,puts,put];rw [Kq,Rm aI]
 | [],_ :: _,_,h=>aM
 | _ :: _,[],_,h=>aM
theorem Ym:∀ {e r vs:List AV} {k:Nat},puts (e++r) (e.length+k) vs=e++puts r k vs
 | [],r,vs,k=>by simp
 | e :: es,r,vs,k=>by
  simp only [Co,Ck];rw [show es.length+1+k=es.length+k+1 from by omega,Kq,Ym]
theorem Q1 {sz:Nat} : ∀ {es:List (List AV)} {i:Nat} {vs:List AV},(∀ e ∈ es,e.length=sz)->i<es.length->vs.length=sz->(put es i vs).flatten=puts es.flatten (i*sz) vs
 | e :: es,0,vs,h,_,hv=>by
  simp only [put,Fm,Oi];rw [Rm (by rw [hv,h e (by simp)])]
 | e :: es,i+1,vs,h,hi,hv=>by
  simp only [put,Fm];rw [Q1 (fun x hx=>h x bG) eQ hv];rw [show (i+1)*sz=e.length+i*sz from by rw [h e (by simp),Mi]; omega,Ym]
 | [],_,_,_,hi,_=>by simp at hi
theorem H8 {α:Type} : ∀ {l:List α} {i:Nat} {v x:α},x ∈ put l i v->x=v\/x ∈ l
 | _ :: _,0,_,_,h=>by simp only [put,Cy] at h ⊢; rcases h with h|h <;> simp [h]
 | y :: l,i+1,v,x,h=>by
  simp only [put,Cy] at h ⊢;rcases h with h|h
  ·simp [h]
  ·rcases H8 h with h|h <;> simp [h]
 | [],_,_,_,h=>by simp [put] at h
theorem Am {α:Type} : ∀ {l:List α} {i:Nat} {v:α},(put l i v).length=l.length
 | [],_,_=>rfl
 | _ :: _,0,_=>rfl
 | _ :: l,i+1,v=>by simp [put,Am]
theorem M7:∀ {vs cs:List AV} {o:Nat},(puts cs o vs).length=cs.length
 | [],_,_=>rfl
 | v :: vs,cs,o=>by simp only [puts]; rw [M7,Am]
theorem Wk {w:World} {A:Nat->Nat->Prop} : ∀ {e r:List AV} {l:List Value},PRs w A (e++r) l->PRs w A e (l.take e.length)/\PRs w A r (l.drop e.length)
 | [],r,l,h=>⟨by simp [PRs],aI⟩
 | c :: e,r,[],h=>by simp [PRs] at h
 | c :: e,r,v :: l,h=>by
  simp only [Co,PRs] at h;obtain ⟨h1,h2⟩:=Wk h.2;exact ⟨by simp only [Ck,F4,PRs]; exact ⟨h.1,h1⟩,cM⟩
theorem Hg {w:World} {A:Nat->Nat->Prop} : ∀ {e r:List AV} {l m:List Value},PRs w A e l->PRs w A r m->PRs w A (e++r) (l++m)
 | [],_,[],_,_,h=>h
 | _ :: _,_,_ :: _,_,h,h'=>by simp only [Co,PRs] at h ⊢; exact ⟨h.1,Hg h.2 h'⟩
 | [],_,_ :: _,_,h,_=>bL
 | _ :: _,_,[],_,h,_=>bL
theorem J2 {w':World} {A:Nat->Nat->Prop} {b:Nat} : ∀ {l:List Value} {o:Nat},(∀ j v,l[j]?=some v->w'.cell? ⟨b,o+j,none⟩=some v/\¬ A b (o+j))->Lie w' A b o l
 | [],_,_=>trivial
 | v :: l,o,h=>⟨by simpa using (h 0 v rfl).1,by simpa using (h 0 v rfl).2,J2 fun j u hu=>by
   have:=h (j+1) u dM;rwa [show o+(j+1)=o+1+j from by omega] at this⟩
theorem J1 {w':World} {A:Nat->Nat->Prop} {b:Nat} : ∀ {l:List Value} {o:Nat},Lie w' A b o l->∀ (j:Nat) (v:Value),l[j]?=some v->w'.cell? ⟨b,o+j,none⟩=some v/\¬ A b (o+j)
 | _ :: _,_,h,0,_,e=>by simp at e; subst e; exact ⟨h.1,h.2.1⟩
 | _ :: l,o,h,j+1,v,e=>by
  have:=J1 h.2.2 j v (by simpa using e);rwa [show o+1+j=o+(j+1) from by omega] at this
 | [],_,_,_,_,e=>by simp at e
theorem Ge {w':World} {A:Nat->Nat->Prop} {b sz:Nat} : ∀ {es:List (List AV)} {o:Nat} {l:List Value},(∀ e ∈ es,e.length=sz)->PRs w' A es.flatten l->Lie w' A b o l->Bt w' A b sz o es
 | [],_,_,_,_,_=>by simp only [Bt]
 | e :: es,o,l,hl,h,xu=>by
  simp only [Bt];simp only [Fm] at h;obtain ⟨h1,h2⟩:=Wk h;have he:=hl e (by simp);refine ⟨he,⟨_,?_,h1⟩,Ge (fun x hx=>hl x bG) h2 ?_⟩
  ·exact J2 fun j v hj=>J1 xu j v (by
    rw [Iw] at hj;split at hj
    ·exact hj
    ·simp at hj)
  ·rw [<- he]; exact Pu _ xu
theorem Gm {w':World} {A:Nat->Nat->Prop} {b sz:Nat} : ∀ {es:List (List AV)} {o:Nat},Bt w' A b sz o es->∃ l,l.length=es.length*sz/\PRs w' A es.flatten l/\Lie w' A b o l
 | [],_,_=>⟨[],by simp,by simp [PRs],trivial⟩
 | e :: es,o,h=>by
  simp only [Bt] at h;obtain ⟨h1,⟨vs,hl,hp⟩,h3⟩:=h;obtain ⟨l,g1,g2,g3⟩:=Gm h3;have hv:vs.length=sz:=by rw [<- K3 hp,h1]
  refine ⟨vs++l,by simp only [Cn,Ck,Mi]; omega,by simp only [Fm]; exact Hg hp g2,?_⟩;refine J2 fun j v hj=>?_;rw [List.getElem?_append] at hj;split at hj
  ·exact J1 hl j v hj
  ·rename_i hn;have:=J1 g3 _ v hj;rwa [show o+sz+(j - vs.length)=o+j from by omega] at this
theorem Aew {w':World} {A:Nat->Nat->Prop} {b sz:Nat} {out:Array Value} {t:TypeId} {fz:Nat × Nat} (hb:w'.heap[b]?=some (.cells out t fz)) (hA:∀ o,¬ A b o) {es:List (List AV)} {l r:List Value} (hl:∀ e ∈ es,e.length=sz) (h:PRs w' A es.flatten l) (ml:out.toList=l++r):Bt w' A b sz 0 es :=
 Ge hl h (J2 fun j v hj=>⟨by
  have dy:out.toList[j]?=some v:=by rw [ml,Cp (Fq.1 hj).1]; exact hj
  have:out[j]?=some v:=by simpa using dy
  simp [It,hb,this],hA _⟩)
theorem Pb {C:Cx} {sz:Nat} : ∀ {ps:List (Nat × AV)} {us:List (Nat × Value)} {es es':List (List AV)} {cells:Array Value},elemsA sz es ps=some es'->(∀ e ∈ es,e.length=sz)->es.flatten.all pure1=true->VRs C es.flatten cells.toList ->
  ps.length=us.length->(∀ (k i:Nat) (x:AV) (j:Nat) (u:Value),ps[k]?=some (i,x)->us[k]?=some (j,u)->i=j/\VR C x u) ->
  ∃ out,Oo (fun i=>some (i*sz,sz)) cells us=some out/\VRs C es'.flatten out.toList/\(∀ e ∈ es',e.length=sz)/\es'.flatten.all pure1=true/\es'.length=es.length
 | [],[],es,es',cells,h,hl,hp,hc,_,_=>by simp only [elemsA,A0] at h; subst h; exact ⟨cells,rfl,hc,hl,hp,rfl⟩
 | (i,x) :: ps,(j,u) :: us,es,es',cells,h,hl,hp,hc,hlen,bm=>by
  simp only [elemsA] at h;split at h
  ·rename_i vs ip;split at h
   ·rename_i hh;obtain ⟨h1,h2,h3⟩:=hh;obtain ⟨rfl,hxu⟩:=bm 0 i x j u rfl rfl;have hv:=Gf ip (Am3 hxu);have e1:u.cells.size=sz:=by have:=A1 hv; simp at this; omega
    have ez:es.flatten.length=es.length*sz:=by
     clear h bm hc hp h3 hlen;induction es with
     | nil=>simp
     | cons e es ih=>simp only [Fm,Cn,Ck]; rw [ih (fun x hx=>hl x bG),hl e (by simp),Mi]; omega
    have e2:i*sz+sz<=cells.size:=by
     have:=A1 hc;simp only [Ii] at this;have h4:(i+1)*sz<=es.length*sz:=F0 _ h3;rw [Mi] at h4;omega
    have hf:=Q1 hl h3 h1;have ek:VRs C (put es i vs).flatten (u.cells.zipIdx.foldl (fun cs (x:Value × Nat)=>cs.setIfInBounds (i*sz+x.2) x.1) cells).toList:=by
     rw [<- iL,iD,Qc (i*sz) u.cells.toList 0 cells,hf];exact K7 hc hv
    have fc:(put es i vs).flatten.all pure1=true:=by
     rw [Cz] at hp h2 ⊢;intro c hc;rw [O5] at hc;obtain ⟨e,he,zh⟩:=hc;rcases H8 he with rfl|he
     ·exact h2 c zh
     ·exact hp c (O5.2 ⟨e,he,zh⟩)
    have nh:∀ e ∈ put es i vs,e.length=sz:=by
     intro e he;rcases H8 he with rfl|he
     ·exact h1
     ·exact hl e he
    obtain ⟨out,k1,k2,k3,k4,k5⟩:=Pb h nh fc ek (by simpa using hlen) (fun k i' x' j' u' a b=>bm (k+1) i' x' j' u' (by simpa using a) (by simpa using b));refine ⟨out,?_,k2,k3,k4,by rw [k5,Am]⟩;have:Oo (fun i=>some (i*sz,sz)) cells ((i,u) :: us)=Oo (fun i=>some (i*sz,sz)) (u.cells.zipIdx.foldl (fun cs (x:Value × Nat)=>cs.setIfInBounds (i*sz+x.2) x.1) cells) us:=by
     simp [Oo,e1];omega
    rw [this]; exact k1
   ·simp at h
  ·simp at h
 | [],_ :: _,_,_,_,_,_,_,_,hl,_=>dA
 | _ :: _,[],_,_,_,_,_,_,_,hl,_=>dA
theorem Rp (l:List Value) (s:Nat) (hs:l.length=s) (h0:0<s):∀ n,(F9 (n*s)).map (fun i=>l[i % s]!)=(Cd n l).flatten
 | 0=>by simp
 | n+1=>by
  have ih:=Rp l s hs h0 n;rw [List.replicate_succ',iE,<- ih];rw [Mi,List.range_add,Ft];congr 1;simp only [iH,Fm,gE,Fu];apply List.ext_getElem
  ·simp [hs]
  ·intro i h1 h2;simp only [List.getElem_map,List.getElem_range,Function.comp];have hi:i<s:=aU
   rw [Nat.mul_add_mod_self_right,O6 hi];simp [h2]
theorem Hh (w:World) (e:TypeId) (cells:Array Value):(newRow e cells).run P w=.ok ⟨w.heap.size,0,none⟩ (w.alloc (.cells cells e)):=rfl
theorem An (w:World) (o:Obj):(w.alloc o).heap[w.heap.size]?=some o:=by
 show (w.heap.push o)[w.heap.size]?=some o;simp
theorem Pm [Globs] {C:Cx} (hs:SR C) {ρA:Operand->AV} {ρ:Operand->Value} (hρ:∀ x,VR C (ρA x) (ρ x)) {t e:TypeId} {len sz:Nat} {ps:Array (Nat × Operand)} {z:List AV} {es:List (List AV)} (he:A7 P t=some e) (hsz:szOf P e=some (sz+1)) (hz:Ar P e=some z)
  (hzl:z.length=sz+1) (hzp:(z.all fun c=>pure1 (w1 c))=true) (bl:len*(sz+1)<=4096) (h:elemsA (sz+1) (Cd len (z.map w1)) (ps.toList.map fun (i,x)=>(i,ρA x))=some es) :
  ∃ v w',(gF t len (ps.map fun (i,x)=>(i,ρ x))).run P C.w=.ok v w'/\Below C.w.heap.size C.w w'/\VR (C.at w') (.frz es .tight) v:=by
 obtain ⟨zv,hz1,rfl⟩:=Jk (w:=C.w) hz;have ry:zv.cells.size=sz+1:=by simpa using hzl
 have hz0:VRs C (Cd len ((zv.cells.toList.map cst1).map w1)).flatten (Cd len zv.cells.toList).flatten:=by
  clear h bl;induction len with
  | zero=>simp [VRs]
  | succ n ih=>simp only [I4,Fm]; exact Gn (Tr (Hw _)) ih
 have hcells:((So (len*(sz+1))).map fun i=>zv.cells[i % zv.cells.size]!).toList=(Cd len zv.cells.toList).flatten:=by
  rw [<- Rp zv.cells.toList (sz+1) (by simpa using ry) aA len];simp [ry,Array.toList_range];intro a _; rw [getElem!_def]; cases zv.cells[a % (sz+1)]? <;> rfl
 obtain ⟨out,h1,h2,h3,h4,h5⟩:=Pb (C:=C) (us:=ps.toList.map fun (i,x)=>(i,ρ x)) (cells:=(So (len*(sz+1))).map fun i=>zv.cells[i % zv.cells.size]!) h (by
   intro e he; rw [Ih] at he; rw [he.2]; simpa using hzl) (by
   rw [Cz] at hzp ⊢;intro c hc;rw [O5] at hc;obtain ⟨l,hl,hc⟩:=hc;rw [Ih] at hl;rw [hl.2,Fy] at hc;obtain ⟨c',ek,rfl⟩:=hc;exact hzp c' ek) (by rw [hcells]; exact hz0) (by simp) (by
   intro k i x j u h1 h2;simp only [Fw,B6] at h1 h2;obtain ⟨⟨a,b⟩,h3,h4⟩:=h1;obtain ⟨⟨a',b'⟩,h5,h6⟩:=h2;rw [h3] at h5;simp only [A0,Cc] at h5 h4 h6;obtain ⟨rfl,rfl⟩:=h5;obtain ⟨rfl,rfl⟩:=h4;obtain ⟨rfl,rfl⟩:=h6;exact ⟨rfl,hρ _⟩)
 have hb:Below C.w.heap.size C.w (C.w.alloc (.cells out e)):=(Fb _ _).alloc (Cb _) _;refine ⟨.slice (some ⟨C.w.heap.size,0,none⟩) len len,C.w.alloc (.cells out e),?_,hb,?_⟩
 ·have e1:(ps.map fun (i,x)=>(i,ρ x)).toList=ps.toList.map fun (i,x)=>(i,ρ x):=by simp
  have xt:¬ (len*(sz+1) > 2 ^ 24):=aA
  simp only [gF,Fe,Bf (Dp he),Eg hsz,Ea,Sem.run_ite];rw [if_neg xt];by_cases hl:len*(sz+1)=0
  ·rw [if_pos hl];have dz:len=0:=by
    rcases Nat.mul_eq_zero.1 hl with h|h
    ·exact h
    ·omega
   subst dz;have e0:∀ (f:Nat->Value),(So (0*(sz+1))).map f=#[]:=fun f=>by simp
   rw [e0] at h1;simp only [Im,Ea,e1,e0,h1,Fe,Hh]
  ·rw [if_neg hl];simp only [hz1,Ea,e1,h1,Fe,Im,Hh]
 ·simp only [VR];refine ⟨_,len,len,rfl,by simpa using h5,Cb _,rfl,?_⟩;by_cases ub:es=[]
  ·exact .inl ub
  ·right;refine ⟨C.w.heap.size,0,sz+1,rfl,?_⟩;have zi:∀ o,¬ (C.at (C.w.alloc (.cells out e))).Avoid C.w.heap.size o:=fun o=>hs.fresh (Cb _);have h6:=VRs.mono (Le.of_below hb) _ _ h2;exact Aew (out:=out) (t:=e) (fz:=(0,0)) (r:=[]) (An _ _) zi h3 (H9 h4 h6) (by simp)
theorem Ahv:∀ {vs cs:List AV},cs.length=vs.length->over cs 0 vs=some vs
 | [],[],_=>rfl
 | v :: vs,c :: cs,h=>by simp only [over,Ahv (vs:=vs) (cs:=cs) aI,Cu]
 | [],_ :: _,h=>aM
 | _ :: _,[],h=>aM
theorem Uu {C:Cx} : ∀ vs:List Value,VRs C (Cd vs.length AV.bot) vs
 | []=>by simp [VRs]
 | _ :: vs=>by simp only [Ck,I4,VRs,VR]; exact ⟨trivial,Uu vs⟩
theorem Adm [Globs] {C:Cx} (hs:SR C) {ρA:Operand->AV} {ρ:Operand->Value} (hρ:∀ x,VR C (ρA x) (ρ x)) {t e:TypeId} {len sz:Nat} {ps:Array (Nat × Operand)} {z:List AV} {av:AV} (he:A7 P t=some e) (hsz:szOf P e=some (sz+1)) (hz:Ar P e=some z)
  (hzl:z.length=sz+1) (bl:len*(sz+1)<=4096) (h:lit1 (sz+1) len (ps.toList.map fun (i,x)=>(i,ρA x))=some av) :
  ∃ v w',(gF t len (ps.map fun (i,x)=>(i,ρ x))).run P C.w=.ok v w'/\Below C.w.heap.size C.w w'/\VR (C.at w') av v:=by
 obtain ⟨zv,hz1,rfl⟩:=Jk (w:=C.w) hz;have ry:zv.cells.size=sz+1:=by simpa using hzl
 unfold lit1 at h;split at h
 ·rename_i x o4;split at h
  ·rename_i vs ip;split at h
   ·rename_i hh;simp only [A0] at h; subst h;obtain ⟨y,hy,iu⟩:∃ y,ps.toList=[(0,y)]/\ρA y=x:=by
     match hl:ps.toList with
     | [(i,y)] =>
      rw [hl] at o4;simp only [Cm,Cw,S9,Cc,and_true] at o4;obtain ⟨rfl,h2⟩:=o4;exact ⟨y,rfl,h2⟩
     | []=>rw [hl] at o4; simp at o4
     | _ :: _ :: _=>rw [hl] at o4; simp at o4
    subst iu;have hv:=Gf ip (hρ y);have hvl:=A1 hv;have e1:(ρ y).cells.size=sz+1:=by simp at hvl; omega
    obtain ⟨cells,hcd⟩:∃ cells,cells=(So (1*(sz+1))).map fun i=>zv.cells[i % zv.cells.size]!:=⟨_,rfl⟩;have a1i:cells.size=sz+1:=by rw [hcd]; simp
    have jy:over (Cd cells.toList.length AV.bot) 0 vs=some vs:=Ahv aB;obtain ⟨h1,h2⟩:=Jd jy;obtain ⟨out,l8⟩:∃ out,out=((ρ y).cells.zipIdx.foldl (fun cs (x:Value × Nat)=>cs.setIfInBounds (0*(sz+1)+x.2) x.1) cells):=⟨_,rfl⟩;have ml:VRs C vs out.toList:=by
     rw [l8,<- iL,iD,Qc (0*(sz+1)) (ρ y).cells.toList 0 cells,h1];simp only [Oi];exact K7 (Uu _) hv
    have a01:Oo (fun i=>some (i*(sz+1),sz+1)) cells [(0,ρ y)]=some out:=by
     have:Oo (fun i=>some (i*(sz+1),sz+1)) cells [(0,ρ y)]=Oo (fun i=>some (i*(sz+1),sz+1)) ((ρ y).cells.zipIdx.foldl (fun cs (x:Value × Nat)=>cs.setIfInBounds (0*(sz+1)+x.2) x.1) cells) []:=by
      simp [Oo,e1,a1i]
     rw [this,<- l8]; rfl
    have hb:Below C.w.heap.size C.w (C.w.alloc (.cells out e)):=(Fb _ _).alloc (Cb _) _;refine ⟨.slice (some ⟨C.w.heap.size,0,none⟩) 1 1,C.w.alloc (.cells out e),?_,hb,?_⟩
    ·have e2:(ps.map fun (i,x)=>(i,ρ x)).toList=[(0,ρ y)]:=by simp [hy]
     have xt:¬ (1*(sz+1) > 2 ^ 24):=aA
     simp only [gF,Fe,Bf (Dp he),Eg hsz,Ea,Sem.run_ite];rw [if_neg xt,if_neg aA];simp only [hz1,Ea,e2,<- hcd,a01,Fe,Im,Hh]
    ·simp only [VR];refine ⟨C.w.heap.size,out.toList,rfl,J2 fun j v hj=>⟨?_,hs.fresh (Cb _)⟩,VRs.mono (Le.of_below hb) _ _ ml⟩;show (C.w.alloc (.cells out e)).cell? _=_;simp only [Fo,It,An];simpa using hj
   ·simp at h
  ·simp at h
 ·simp at h
theorem Ya {t:TypeId} {m:String} {f:FuncId} (h:mRow P t m=some f):∃ i r p,P.info? t=some i/\i.methods.find? (·.name == m)=some r/\r.path=#[]/\r.func=some (f,p)/\((p=true/\∃ e,P.underlying t=some (.pointer e))\/(p=false/\∃ fs,P.underlying t=some (.struct fs))):=by
 unfold mRow at h;split at h
 ·rename_i r hr;simp only [Ie] at hr;obtain ⟨i,h1,h2⟩:=hr;split at h
  ·rename_i hp;have fc:r.path=#[]:=by simpa using hp
   split at h
   ·rename_i f' e h3 h4;simp only [A0] at h; subst h;exact ⟨i,r,true,h1,h2,fc,h3,.inl ⟨rfl,e,h4⟩⟩
   ·rename_i f' fs h3 h4;simp only [A0] at h; subst h;exact ⟨i,r,false,h1,h2,fc,h3,.inr ⟨rfl,fs,h4⟩⟩
   ·simp at h
  ·simp at h
 ·simp at h
theorem Th {w:World} {t:TypeId} {m:String} {u:Value} (h:(mRow P t m).isSome=true):(nilAhead (P.types.size+fK) t u m).run P w=.ok (some false) w:=by
 obtain ⟨f,hf⟩:=O2.1 h;obtain ⟨i,r,p,h1,h2,h3,h4,h5⟩:=Ya hf;have hd:P.types.size+fK=(P.types.size+fK - 1)+1:=by
   have:0<fK:=aL
   omega
 rw [hd];rcases h5 with ⟨rfl,e,h5⟩|⟨rfl,fs,h5⟩
 ·simp [nilAhead,typeInfo,h1,h2,h3,h4,followBlind]
 ·simp [nilAhead,typeInfo,h1,h2,h3,h4,followBlind,Bf h5]
theorem Ads {w:World} {t:TypeId} {m:String} {f:FuncId} {u:Value} (h:mRow P t m=some f):(method (P.types.size+fK) t u m).run P w=.ok (f,u) w:=by
 obtain ⟨i,r,p,h1,h2,h3,h4,h5⟩:=Ya h;have hd:P.types.size+fK=(P.types.size+fK - 1)+1:=by
   have:0<fK:=aL
   omega
 rw [hd];rcases h5 with ⟨rfl,e,h5⟩|⟨rfl,fs,h5⟩
 ·exact Ya2p
 ·exact Ya2p
theorem T8 {C:Cx} {x:AV} {v:Value} {n:Nat} (hx:VR C x v) (h:lenA x=some n):∃ a cap,v=.slice a n cap:=by
 unfold lenA at h;split at h
 ·simp only [A0] at h; subst h;simp only [VR] at hx;obtain ⟨a,len,cap,rfl,e,-⟩:=hx;exact ⟨a,cap,by rw [e]⟩
 ·simp only [A0] at h; subst h;simp only [VR] at hx;obtain ⟨b,a,cap,rfl,-⟩:=hx;exact ⟨a,cap,rfl⟩
 ·simp at h
theorem K5 {C:Cx} {ρA:Operand->AV} {ρ:Operand->Value} (hρ:∀ x,VR C (ρA x) (ρ x)):∀ l:List Operand,VRs C (l.map ρA) (l.map ρ)
 | []=>dE
 | x :: l=>by simp only [Cm,VRs]; exact ⟨hρ x,K5 hρ l⟩
theorem Zs {t:TypeId} (h:Q6 P t=true):∃ e,P.underlying t=some (.slice e)/\P.underlying e=some (.int .u8):=by
 unfold Q6 at h;cases he:A7 P t with
 | none=>rw [he] at h; simp at h
 | some e =>
  rw [he] at h;simp only [Lg] at h;cases hk:Jb P e with
  | none=>rw [hk] at h; simp at h
  | some k =>
   rw [hk] at h;cases k <;> simp at h;exact ⟨e,Dp he,Nq hk⟩
theorem Af6 [Globs] {C:Cx} (hs:SR C) {ρ:Operand->Value} {o:Oper} {s d:TypeId} {x:Operand} {ax av:AV} (hx:VR C ax (ρ x)) (e:o.op=.convert s d x) (h:cvA P s d ax=some av):Gives P C ρ o av:=by
 unfold cvA at h;split at h
 ·rename_i b;split at h
  ·rename_i hh;simp only [Cf,decide_eq_true_eq] at hh;obtain ⟨⟨h1,h2⟩,h3⟩:=hh;simp only [A0] at h; subst h;obtain ⟨el,g1,g2⟩:=Zs h2;simp only [VR] at hx;have hb:Below C.w.heap.size C.w (Lib.bytesWorld C.w el b):=Lib.bytesWorld_below C.w el b;refine ⟨.slice (some ⟨C.w.heap.size,0,none⟩) b.size (grownCap C.w b.size 0 el),Lib.bytesWorld C.w el b,?_,hb,?_⟩
   ·simp only [execOp,e,hx,Fe,Lib.run_convert_string_bytes C.w s d el b (Hn h1) g1 g2,Ea,Im]
   ·have hg:=grownCap_ge C.w b.size 0 el;simp only [VR];refine ⟨_,b.size,_,rfl,by simp [bytesL],hg,trivial,.inr ⟨C.w.heap.size,0,1,rfl,?_⟩⟩;have o5:∀ (A:Nat->Nat->Prop) (w:World) (l:List UInt8),PRs w A (l.map fun x=>([.prim (.int .u8 x.toNat)]:List AV)).flatten (l.map fun x=>fO .u8 (x.toNat:Int)):=by
     intro A w l;induction l with
     | nil=>simp [PRs]
     | cons x l ih=>simp only [Cm,Fm,Co,Ct,PRs]; exact ⟨by simp [PR,fU],ih⟩
    refine Ge (l:=b.data.toList.map fun x=>fO .u8 (x.toNat:Int)) (fun q hq=>?_) (o5 _ _ _) (J2 fun j v hj=>⟨?_,hs.fresh (Cb _)⟩)
    ·unfold bytesL at hq;rw [Fy] at hq;obtain ⟨x,-,rfl⟩:=hq;rfl
    ·have dy:j<b.size:=by
      have:=(Fq.1 hj).1;rw [Ib,Ii] at this;exact this
     rw [Fo];show (Lib.bytesWorld C.w el b).cell? _=_;rw [Lib.bytesWorld_cell C.w el b j dy,<- hj];simp only [Fw,List.getD];have:j<b.data.toList.length:=by rw [Ii]; exact dy
     rw [Ig this];rfl
  ·exact .of_has (Qh hx h) bD
 ·exact .of_has (Qh hx h) bD
theorem Y0 {C:Cx} {x y:AV} {l:List Value} (h:VRs C [x,y] l):∃ u v,l=[u,v]:=by
 match l,h with
 | [u,v],_=>exact ⟨u,v,rfl⟩
 | [],h=>simp only [VRs] at h
 | [_],h=>simp only [VRs,and_false] at h
 | _ :: _ :: _ :: _,h=>simp only [VRs,and_false] at h
theorem Agm [Globs] {C:Cx} (hs:SR C) {ρA:Operand->AV} {ρ:Operand->Value} (hρ:∀ x,VR C (ρA x) (ρ x)) {o:Oper} {av:AV} (h:evQ P o ρA=some av):Gives P C ρ o av:=by
 unfold evQ at h;split at h;case h_1 x e=>simp only [A0] at h; subst h; exact .of_has (s:=pure (ρ x)) ⟨_,rfl,hρ x⟩ (by simp [execOp,e])
 case h_2 x e=>simp only [A0] at h; subst h; exact .of_has (s:=pure (ρ x)) ⟨_,rfl,hρ x⟩ (by simp [execOp,e])
 case h_3 c a b e =>
  split at h
  ·rename_i t hc
   simp only [A0] at h; subst h
   have hv:=hρ c
   rw [hc] at hv; simp only [VR] at hv
   refine ⟨if t then ρ a else ρ b,C.w,by simp [execOp,e,hv,asBool],Fb _ _,?_⟩
   cases t
   ·exact hρ b
   ·exact hρ a
  ·simp at h
 case h_4 b t x y e' e=>exact .of_has (Ac4 (ox:=x) (oy:=y) (hρ x) (hρ y) h) bD
 case h_5 u t x e=>exact .of_has (Ae5 (hρ x) h) bD
 case h_6 s d x e=>exact Af6 hs (hρ x) e h
 case h_7 t i e =>
  split at h
  ·rename_i vs hc
   have hv:=hρ t
   rw [hc] at hv; simp only [VR] at hv
   obtain ⟨us,e2,hv⟩:=hv
   obtain ⟨v,h1,h2⟩:=Tq hv h
   exact .of_has (s:=Instr.extract (ρ t) i) ⟨v,by rw [e2]; simp at h1; simp [Instr.extract,h1],h2⟩ bD
  ·simp at h
 case h_8 t x k e =>
  split at h
  ·rename_i off sz b cs hf hc
   obtain ⟨fs,f,hu,hfk,h1,h2,h3,h4⟩:=L1 hf
   have hv:=hρ x
   rw [hc] at hv; simp only [VR] at hv
   obtain ⟨us,e2,hv⟩:=hv
   obtain ⟨v,g1,g2⟩:=Adx h2 h3 hv h
   exact .of_has (s:=Instr.field t (ρ x) k) ⟨v,by rw [e2]; simp [Instr.field,Bf hu,hfk,asAgg,h1,g1],g2⟩ bD
  ·simp at h
 case h_9 t x i e=>exact .of_has (Adg (hρ x) (hρ i) h) bD
 case h_10 t x k e=>exact .of_has (Adc (hρ x) h) bD
 case h_11 t x i e =>
  split at h
  ·rename_i s k hc hk
   split at h
   ·rename_i ht
    simp only [B6] at h
    obtain ⟨b,hb,rfl⟩:=h
    have hv:=hρ x
    rw [hc] at hv; simp only [VR] at hv
    obtain ⟨ki,o6⟩:=D6 hk (hρ i)
    refine .of_has (s:=Instr.index t (ρ x) (ρ i)) (.mk ?_) bD
    rw [hv,o6]
    simp [Instr.index,asIntOf,Bf (Hn ht),hb]
   ·simp at h
  ·simp at h
 case h_12 t ps e =>
  split at h
  ·rename_i z pl hz hp
   exact .of_has (Ze hρ hz hp h) bD
  ·simp at h
 case h_13 t len ps e =>
  split at h
  ·rename_i el he
   split at h
   ·rename_i sz z hsz hz
    split at h
    ·rename_i hh
     obtain ⟨h1,h2,h3⟩:=hh
     unfold Adw at h
     split at h
     ·rename_i es ub
      simp only [A0] at h; subst h
      obtain ⟨v,w',g1,g2,g3⟩:=Pm hs hρ he hsz hz h1 h2 h3 ub
      exact ⟨v,w',Za19,g2,g3⟩
     ·obtain ⟨v,w',g1,g2,g3⟩:=Adm hs hρ he hsz hz h1 h3 h
      exact ⟨v,w',Za19,g2,g3⟩
    ·simp at h
   ·simp at h
  ·simp at h
 case h_14 t x lo hi mx e=>exact .of_has (Yt (hρ x) (Um hρ lo) (Um hρ hi) (Um hρ mx) h) bD
 case h_15 f first caps e =>
  split at h
  ·rename_i hh
   simp only [A0] at h; subst h
   have hf:first=#[]:=by simpa using hh.1
   refine .of_has (s:=Sp (.func f) (first.map ρ) (caps.map ρ)) ⟨.func (.func f) #[] (caps.map ρ),by simp [Sp,hf],?_⟩ bD
   simp only [VR]
   exact ⟨_,rfl,Za3k⟩
  ·split at h
   ·rename_i hh
    simp only [A0] at h; subst h
    have hf:caps=#[]:=by simpa using hh
    refine .of_has (s:=Sp (.func f) (first.map ρ) (caps.map ρ)) ⟨.func (.func f) (first.map ρ) #[],by simp [Sp,hf],?_⟩ bD
    simp only [VR]
    exact ⟨_,rfl,Za3k⟩
   ·simp at h
 case h_16 c e =>
  split at h
  ·rename_i hb
   have aa:=K5 hρ c.args.toList
   split at h
   ·rename_i s t hc ht
    split at h
    ·rename_i ah
     simp only [A0] at h; subst h
     rw [hc] at aa
     obtain ⟨u,hu⟩:∃ u,c.args.toList.map ρ=[u]:=by
      exact Ya2n
     rw [hu] at aa
     simp only [VRs,VR,and_true] at aa
     have ha:c.args.map ρ=#[.string s]:=by rw [<- Su]; simp [hu,aa]
     refine ⟨.int .i64 s.size,C.w,?_,Fb _ _,bN⟩
     have xg:c.argTypes=#[t]:=cP
     simp [execOp,e,resolve,hb,ha,invoke,builtin,Builtin.len_,xg,Bf (Hn ah),goInt]
    ·simp at h
   ·rename_i x t _ hc ht
    split at h
    ·rename_i ah
     simp only [B6] at h
     obtain ⟨n,hn,rfl⟩:=h
     rw [hc] at aa
     obtain ⟨u,hu⟩:∃ u,c.args.toList.map ρ=[u]:=by
      exact Ya2n
     rw [hu] at aa
     simp only [VRs,and_true] at aa
     obtain ⟨a,cap,rfl⟩:=T8 aa hn
     have ha:c.args.map ρ=#[.slice a n cap]:=cK
     obtain ⟨el,he⟩:=O2.1 ah
     refine ⟨.int .i64 n,C.w,?_,Fb _ _,bN⟩
     have xg:c.argTypes=#[t]:=cP
     simp [execOp,e,resolve,hb,ha,invoke,builtin,Builtin.len_,xg,Bf (Dp he),goInt]
    ·simp at h
   ·simp at h
  ·rename_i hb
   have aa:=K5 hρ c.args.toList
   split at h
   ·rename_i x y hc
    rw [hc] at aa
    obtain ⟨u,v,hu⟩:=Y0 aa
    rw [hu] at aa
    simp only [VRs,and_true] at aa
    have ha:c.args.map ρ=#[u,v]:=cK
    unfold minA at h
    split at h
    ·split at h
     ·rename_i hk
      subst hk
      simp only [A0] at h; subst h
      simp only [VR] at aa
      obtain ⟨rfl,rfl⟩:=aa
      refine ⟨_,C.w,?_,Fb _ _,by simp only [VR]; rfl⟩
      simp [execOp,e,resolve,hb,ha,invoke,builtin,Builtin.min_,Builtin.min2]
     ·simp at h
    ·simp at h
   ·simp at h
  ·rename_i hb
   have aa:=K5 hρ c.args.toList
   split at h
   ·rename_i x y hc
    rw [hc] at aa
    obtain ⟨u,v,hu⟩:=Y0 aa
    rw [hu] at aa
    simp only [VRs,and_true] at aa
    have ha:c.args.map ρ=#[u,v]:=cK
    unfold maxA at h
    split at h
    ·split at h
     ·rename_i hk
      subst hk
      simp only [A0] at h; subst h
      simp only [VR] at aa
      obtain ⟨rfl,rfl⟩:=aa
      refine ⟨_,C.w,?_,Fb _ _,by simp only [VR]; rfl⟩
      simp [execOp,e,resolve,hb,ha,invoke,builtin,Builtin.max_,Builtin.max2]
     ·simp at h
    ·simp at h
   ·simp at h
  ·simp at h
 case h_17 m first caps e =>
  split at h
  ·rename_i x hf hcp
   unfold mthA at h
   split at h
   ·rename_i t v hv
    simp only [A0] at h; subst h
    have hx:=hρ x
    rw [hv] at hx
    simp only [VR] at hx
    obtain ⟨u,hu,hvu⟩:=hx
    have e1:first.map ρ=#[.iface t u]:=by rw [<- Su]; simp [hf,hu]
    have e2:caps.map ρ=#[]:=by rw [<- Su]; simp [hcp]
    refine .of_has (s:=Sp (.method m) (first.map ρ) (caps.map ρ)) ⟨.func (.method m) #[.iface t u] #[],by rw [e1,e2]; simp [Sp],?_⟩ bD
    simp only [VR]
    exact ⟨u,rfl,hvu⟩
   ·simp at h
  ·simp at h
 case h_18 t x e =>
  split at h
  ·simp at h
  ·rename_i hi
   simp only [A0] at h; subst h
   obtain ⟨ut,hut,hni⟩:∃ ut,P.underlying t=some ut/\∀ ms,ut≠.interface ms:=by
    unfold Adi at hi;split at hi
    ·simp at hi
    ·simp at hi
    ·rename_i h1 h2;cases hu:P.underlying t with
     | none=>exact absurd hu h2
     | some ut=>exact ⟨ut,rfl,fun ms hms=>h1 ms (by rw [hu,hms])⟩
   refine .of_has (s:=Instr.makeInterface t (ρ x)) ⟨.iface t (ρ x),?_,?_⟩ bD
   ·simp only [Instr.makeInterface,Fe,Bf hut,Ea]
    cases ut <;> first|rfl|exact absurd rfl (hni _)
   ·simp only [VR]
    exact ⟨_,rfl,hρ x⟩
 case h_19 x e =>
  have hx:=hρ x
  unfold chkM at h
  split at h
  ·rename_i t m v hv
   split at h
   ·rename_i hm
    simp only [A0] at h; subst h
    rw [hv] at hx
    have hx':=hx
    simp only [VR] at hx'
    obtain ⟨u,hb,-⟩:=hx'
    refine ⟨ρ x,C.w,?_,Fb _ _,hx⟩
    have hna:=Th (P:=P) (w:=C.w) (u:=u) hm
    simp [execOp,e,hb,hna]
   ·simp at h
  unfold chkA at h
  split at h
  ·rename_i id ep off hv
   simp only [A0] at h; subst h
   rw [hv] at hx
   have hx':=hx
   simp only [VR] at hx'
   obtain ⟨b,hb,-⟩:=hx'
   exact ⟨ρ x,C.w,dH,Fb _ _,hx⟩
  ·rename_i cs hv
   simp only [A0] at h; subst h
   rw [hv] at hx
   have hx':=hx
   simp only [VR] at hx'
   obtain ⟨b,o,vs,hb,-⟩:=hx'
   exact ⟨ρ x,C.w,dH,Fb _ _,hx⟩
  ·rename_i f caps hv
   simp only [A0] at h; subst h
   rw [hv] at hx
   have hx':=hx
   simp only [VR] at hx'
   obtain ⟨vs,hb,-⟩:=hx'
   exact ⟨ρ x,C.w,dH,Fb _ _,hx⟩
  ·rename_i f first hv
   simp only [A0] at h; subst h
   rw [hv] at hx
   have hx':=hx
   simp only [VR] at hx'
   obtain ⟨vs,hb,-⟩:=hx'
   exact ⟨ρ x,C.w,dH,Fb _ _,hx⟩
  ·rename_i t v hv
   simp only [A0] at h; subst h
   rw [hv] at hx
   have hx':=hx
   simp only [VR] at hx'
   obtain ⟨u,hb,-⟩:=hx'
   exact ⟨ρ x,C.w,dH,Fb _ _,hx⟩
  ·simp at h
 ·simp at h
end
end
end Go.Proofs.YthelkgdmgihhiaaGreat
