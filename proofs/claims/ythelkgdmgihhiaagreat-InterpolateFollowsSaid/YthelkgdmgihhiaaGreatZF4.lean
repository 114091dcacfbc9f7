/- Part 4. -/
import Derived.Test.YthelkgdmgihhiaaGreatZF3
import Derived.Lib.ConvBytes
import Derived.Lib.AtoiErrMem
import Derived.Below
open Array renaming getElem?_eq_some_iff->Cj,length_toList->It,range->iE,toList_inj->iN,toList_zipIdx->kN,foldl_toList->kS
open Bool renaming and_eq_true->Ch
open Go renaming sizeOf->lD
open Go.Instr renaming fill->Si,makeFunc->iF,buildSlice->jT
open Go.Made renaming depth->iY
open Go.Result renaming andThen_ok->Fs
open Go.RowKit.Below renaming refl->Fw,cell->lF
open Go.Sem renaming run_bind->F0,run_pure->Iu
open Go.Value renaming int->jC,oneCell'->jG
open Go.World renaming cell?->I7
open List renaming replicate->Cg,length_cons->Ci,length_append->Cm,map_cons->Cn,cons_append->Co,nil_append->Cr,map_nil->Cs,getElem?_append_left->Cv,mem_cons->C4,range->C8,all_eq_true->C9,getElem?_map->Et,length_map->Fg,map_append->Fk,append_nil->Fo,flatten_cons->F1,getElem?_eq_some_iff->F5,mem_map->F9,take_succ_cons->Ga,getElem?_eq_getElem->Io,mem_replicate->Ip,getElem?_take->Ms,replicate_succ->Og,mem_flatten->iM,flatten_nil->jS,flatten_append->kO,map_map->kR
open List.cons renaming injEq->iV
open Nat renaming le_refl->Ce,zero_add->Fm,lt_of_lt_of_le->F3,mul_le_mul_right->F6,succ_mul->I9,zero_mul->Om,mod_eq_of_lt->Se
open Option renaming map_eq_some_iff->Cc,map_some->C7,bind_eq_some_iff->Ij,bind_some->Oj,isSome_iff_exists->Su
open Option.some renaming injEq->Ba
open Prod.mk renaming injEq->Cf
namespace Go.Proofs.YthelkgdmgihhiaaGreat
section
open Go.RowKit
section
variable {P:Program}
def Cx.at (C:Cx) (w:World):Cx:={ C with w:=w }
theorem Dr {w w':World} (h:Below w.heap.size w w') {b:Nat} {o:Obj} (hb:w.heap[b]?=some o):w'.heap[b]?=some o:=by
 rw [h.block b (Cj.1 hb).1]; exact hb
theorem Le.of_below {C:Cx} {w':World} (h:Below C.w.heap.size C.w w'):Le C (C.at w') :=
 ⟨h.os,h.tape,h.output,h.size,rfl,Ce _,fun _ _ _ m=>m,fun b o v hv _=>by rw [show (C.at w').w=w' from rfl,lF h (Gx hv)]; exact hv,fun b hb _=>h.block b hb,
  fun b cs t fz hb=>⟨cs,Dr h hb,rfl⟩,fun _ e' he _=>⟨e',he,rfl,rfl⟩,fun _ k hk=>⟨k,hk,Ce _,fun _=>rfl⟩⟩
theorem SR.of_below [Globs] {C:Cx} {w':World} (hs:SR C) (h:Below C.w.heap.size C.w w'):SR (C.at w'):=by
 have hle:=Le.of_below h;refine ⟨fun id e he=>?_,hs.ne,hs.tok,hs.apart,hs.own,fun b o ha=>F3 (hs.avlt b o ha) h.size,fun i o hi h1 h2=>F3 (hs.tlt i o hi h1 h2) h.size,Qw hs hle⟩;obtain ⟨h1,cs,t,h2,vs,r,h3,h4⟩:=hs.ent id e he;exact ⟨h1,cs,t,Dr h h2,vs,r,h3,VRs.mono hle _ _ h4⟩
def Gives (P:Program) (C:Cx) (ρ:Operand->Value) (o:Oper) (av:AV):Prop:=∃ v w',(execOp ρ o).run P C.w=.ok (.value v) w'/\Below C.w.heap.size C.w w'/\VR (C.at w') av v
theorem Gives.of_has {C:Cx} {ρ:Operand->Value} {o:Oper} {av:AV} {s:Sem Value} (h:Has P C s av) (he:execOp ρ o=(do pure (.value (<- s)))):Gives P C ρ o av:=by
 obtain ⟨v,h1,h2⟩:=h;exact ⟨v,C.w,by rw [he]; simp [h1],Fw _ _,h2⟩
theorem Kl {t:TypeId} {z:List AV} {w:World} (h:A2 P t=some z):∃ v:Value,(zeroValue t).run P w=.ok v w/\z=v.cells.toList.map cst1:=by
 simp only [A2,Cc,Ij] at h;obtain ⟨v,⟨i,h1,h2⟩,rfl⟩:=h;exact ⟨v,by simp [zeroValue,typeInfo,h1,h2],rfl⟩
theorem Uf {w:World} : ∀ {fs:List Field} {pl:List (Nat × Nat)},Ue P fs=some pl->(fs.mapM (m:=Sem) fun f=>do pure (f.offset,<- lD f.type)).run P w=.ok pl w
 | [],_,h=>by simp only [Ue,Ba] at h; subst h; simp
 | f :: fs,_,h=>by
  simp only [Ue] at h;split at h
  ·rename_i s l h1 h2;simp only [Ba] at h; subst h;have ih:=Uf (w:=w) h2;rw [List.mapM_cons];simp only [F0,E7 h1,Fs,Iu,ih]
  ·simp at h
theorem Acn {C:Cx} {ρA:Operand->AV} {ρ:Operand->Value} (hρ:∀ x,VR C (ρA x) (ρ x)) {t:TypeId} {ps:Array (Nat × Operand)} {z:List AV} {pl:List (Nat × Nat)} {av:AV} (hz:A2 P t=some z) (hp:fieldsOf P t=some pl)
  (h:(fillA pl z (ps.toList.map fun (i,x)=>(i,ρA x))).map AV.agg=some av):Has P C (Instr.build t (ps.map fun (i,x)=>(i,ρ x))) av:=by
 simp only [Cc] at h;obtain ⟨ds,h,rfl⟩:=h;obtain ⟨zv,hz1,rfl⟩:=Kl (w:=C.w) hz;unfold fieldsOf at hp;split at hp
 ·rename_i fs hu;have hm:=Uf (w:=C.w) hp;obtain ⟨out,h1,h2,-⟩:=Ws (C:=C) (pl:=pl) (place:=fun i=>pl.toArray[i]?) (us:=ps.toList.map fun (i,x)=>(i,ρ x)) (cells:=zv.cells) (fun i=>by simp [Af]) h (Js _) (by simp) (by
   intro k i x j u h1 h2;simp only [Et,Cc] at h1 h2;obtain ⟨⟨a,b⟩,h3,h4⟩:=h1;obtain ⟨⟨a',b'⟩,h5,h6⟩:=h2;rw [h3] at h5;simp only [Ba,Cf] at h5 h4 h6;obtain ⟨rfl,rfl⟩:=h5;obtain ⟨rfl,rfl⟩:=h4;obtain ⟨rfl,rfl⟩:=h6;exact ⟨rfl,hρ _⟩)
  refine ⟨.agg out,?_,by simp only [VR]; exact ⟨out,rfl,h2⟩⟩;have e1:(ps.map fun (i,x)=>(i,ρ x)).toList=ps.toList.map fun (i,x)=>(i,ρ x):=by simp
  have e2:(fs.mapM (m:=Sem) fun f=>do pure (f.offset,<- lD f.type)).run P C.w=.ok pl.toArray C.w:=by
   rw [Array.mapM_eq_mapM_toList,Sem.run_map,hm]; rfl
  simp only [Instr.build,F0,hz1,Fs,Bq hu,e2,e1,h1,Iu]
 ·simp at hp
theorem SR.fresh [Globs] {C:Cx} (hs:SR C) {b o:Nat} (hb:C.w.heap.size<=b):¬ C.Avoid b o:=by
 rintro (h|⟨id,hid,h⟩|⟨id,hid,h1,h2,h3⟩)
 ·have:=hs.avlt b o h; omega
 ·obtain ⟨e,he⟩:∃ e,nth C.S id=some e:=⟨C.S[id],by rw [Af]; exact Io hid⟩;obtain ⟨-,cs,t,h2,-⟩:=hs.ent id e he;have:=(Cj.1 h2).1;omega
 ·have:=hs.tlt id o hid h2 h3;omega
theorem Vg:∀ {e vs r:List AV},vs.length=e.length->puts (e++r) 0 vs=vs++r
 | [],[],_,_=>rfl
 | e :: es,v :: vs,r,h=>by
  simp only [Co,puts,put];rw [Lx,Vg aL]
 | [],_ :: _,_,h=>aO
 | _ :: _,[],_,h=>aO
theorem Abr:∀ {e r vs:List AV} {k:Nat},puts (e++r) (e.length+k) vs=e++puts r k vs
 | [],r,vs,k=>by simp
 | e :: es,r,vs,k=>by
  simp only [Co,Ci];rw [show es.length+1+k=es.length+k+1 from by omega,Lx,Abr]
theorem Ul {sz:Nat} : ∀ {es:List (List AV)} {i:Nat} {vs:List AV},(∀ e ∈ es,e.length=sz)->i<es.length->vs.length=sz->(put es i vs).flatten=puts es.flatten (i*sz) vs
 | e :: es,0,vs,h,_,hv=>by
  simp only [put,F1,Om];rw [Vg (by rw [hv,h e (by simp)])]
 | e :: es,i+1,vs,h,hi,hv=>by
  simp only [put,F1];rw [Ul (fun x hx=>h x bN) fU hv];rw [show (i+1)*sz=e.length+i*sz from by rw [h e (by simp),I9]; omega,Abr]
 | [],_,_,_,hi,_=>by simp at hi
theorem Hu {α:Type} : ∀ {l:List α} {i:Nat} {v x:α},x ∈ put l i v->x=v\/x ∈ l
 | _ :: _,0,_,_,h=>by simp only [put,C4] at h ⊢; rcases h with h|h <;> simp [h]
 | y :: l,i+1,v,x,h=>by
  simp only [put,C4] at h ⊢;rcases h with h|h
  ·simp [h]
  ·rcases Hu h with h|h <;> simp [h]
 | [],_,_,_,h=>by simp [put] at h
theorem Am {α:Type} : ∀ {l:List α} {i:Nat} {v:α},(put l i v).length=l.length
 | [],_,_=>rfl
 | _ :: _,0,_=>rfl
 | _ :: l,i+1,v=>by simp [put,Am]
theorem P9:∀ {vs cs:List AV} {o:Nat},(puts cs o vs).length=cs.length
 | [],_,_=>rfl
 | v :: vs,cs,o=>by simp only [puts]; rw [P9,Am]
theorem Zh {w:World} {A:Nat->Nat->Prop} : ∀ {e r:List AV} {l:List Value},PRs w A (e++r) l->PRs w A e (l.take e.length)/\PRs w A r (l.drop e.length)
 | [],r,l,h=>⟨by simp [PRs],aL⟩
 | c :: e,r,[],h=>by simp [PRs] at h
 | c :: e,r,v :: l,h=>by
  simp only [Co,PRs] at h;obtain ⟨h1,h2⟩:=Zh h.2;exact ⟨by simp only [Ci,Ga,PRs]; exact ⟨h.1,h1⟩,cF⟩
theorem Ja {w:World} {A:Nat->Nat->Prop} : ∀ {e r:List AV} {l m:List Value},PRs w A e l->PRs w A r m->PRs w A (e++r) (l++m)
 | [],_,[],_,_,h=>h
 | _ :: _,_,_ :: _,_,h,h'=>by simp only [Co,PRs] at h ⊢; exact ⟨h.1,Ja h.2 h'⟩
 | [],_,_ :: _,_,h,_=>bR
 | _ :: _,_,[],_,h,_=>bR
theorem K5 {w':World} {A:Nat->Nat->Prop} {b:Nat} : ∀ {l:List Value} {o:Nat},(∀ j v,l[j]?=some v->w'.cell? ⟨b,o+j,none⟩=some v/\¬ A b (o+j))->Lie w' A b o l
 | [],_,_=>trivial
 | v :: l,o,h=>⟨by simpa using (h 0 v rfl).1,by simpa using (h 0 v rfl).2,K5 fun j u hu=>by
   have:=h (j+1) u eQ;rwa [show o+(j+1)=o+1+j from by omega] at this⟩
theorem K4 {w':World} {A:Nat->Nat->Prop} {b:Nat} : ∀ {l:List Value} {o:Nat},Lie w' A b o l->∀ (j:Nat) (v:Value),l[j]?=some v->w'.cell? ⟨b,o+j,none⟩=some v/\¬ A b (o+j)
 | _ :: _,_,h,0,_,e=>by simp at e; subst e; exact ⟨h.1,h.2.1⟩
 | _ :: l,o,h,j+1,v,e=>by
  have:=K4 h.2.2 j v (by simpa using e);rwa [show o+1+j=o+(j+1) from by omega] at this
 | [],_,_,_,_,e=>by simp at e
theorem G5 {w':World} {A:Nat->Nat->Prop} {b sz:Nat} : ∀ {es:List (List AV)} {o:Nat} {l:List Value},(∀ e ∈ es,e.length=sz)->PRs w' A es.flatten l->Lie w' A b o l->B4 w' A b sz o es
 | [],_,_,_,_,_=>by simp only [B4]
 | e :: es,o,l,hl,h,a0a=>by
  simp only [B4];simp only [F1] at h;obtain ⟨h1,h2⟩:=Zh h;have he:=hl e (by simp);refine ⟨he,⟨_,?_,h1⟩,G5 (fun x hx=>hl x bN) h2 ?_⟩
  ·exact K5 fun j v hj=>K4 a0a j v (by
    rw [Ms] at hj;split at hj
    ·exact hj
    ·simp at hj)
  ·rw [<- he]; exact R8 _ a0a
theorem Hd {w':World} {A:Nat->Nat->Prop} {b sz:Nat} : ∀ {es:List (List AV)} {o:Nat},B4 w' A b sz o es->∃ l,l.length=es.length*sz/\PRs w' A es.flatten l/\Lie w' A b o l
 | [],_,_=>⟨[],by simp,by simp [PRs],trivial⟩
 | e :: es,o,h=>by
  simp only [B4] at h;obtain ⟨h1,⟨vs,hl,hp⟩,h3⟩:=h;obtain ⟨l,g1,g2,g3⟩:=Hd h3;have hv:vs.length=sz:=by rw [<- Mg hp,h1]
  refine ⟨vs++l,by simp only [Cm,Ci,I9]; omega,by simp only [F1]; exact Ja hp g2,?_⟩;refine K5 fun j v hj=>?_;rw [List.getElem?_append] at hj;split at hj
  ·exact K4 hl j v hj
  ·rename_i hn;have:=K4 g3 _ v hj;rwa [show o+sz+(j - vs.length)=o+j from by omega] at this
theorem Aiv {w':World} {A:Nat->Nat->Prop} {b sz:Nat} {out:Array Value} {t:TypeId} {fz:Nat × Nat} (hb:w'.heap[b]?=some (.cells out t fz)) (hA:∀ o,¬ A b o) {es:List (List AV)} {l r:List Value} (hl:∀ e ∈ es,e.length=sz) (h:PRs w' A es.flatten l) (ky:out.toList=l++r):B4 w' A b sz 0 es :=
 G5 hl h (K5 fun j v hj=>⟨by
  have fh:out.toList[j]?=some v:=by rw [ky,Cv (F5.1 hj).1]; exact hj
  have:out[j]?=some v:=by simpa using fh
  simp [I7,hb,this],hA _⟩)
theorem Rq {C:Cx} {sz:Nat} : ∀ {ps:List (Nat × AV)} {us:List (Nat × Value)} {es es':List (List AV)} {cells:Array Value},elemsA sz es ps=some es'->(∀ e ∈ es,e.length=sz)->es.flatten.all pure1=true->VRs C es.flatten cells.toList ->
  ps.length=us.length->(∀ (k i:Nat) (x:AV) (j:Nat) (u:Value),ps[k]?=some (i,x)->us[k]?=some (j,u)->i=j/\VR C x u) ->
  ∃ out,Si (fun i=>some (i*sz,sz)) cells us=some out/\VRs C es'.flatten out.toList/\(∀ e ∈ es',e.length=sz)/\es'.flatten.all pure1=true/\es'.length=es.length
 | [],[],es,es',cells,h,hl,hp,hc,_,_=>by simp only [elemsA,Ba] at h; subst h; exact ⟨cells,rfl,hc,hl,hp,rfl⟩
 | (i,x) :: ps,(j,u) :: us,es,es',cells,h,hl,hp,hc,hlen,bj=>by
  simp only [elemsA] at h;split at h
  ·rename_i vs ig;split at h
   ·rename_i hh;obtain ⟨h1,h2,h3⟩:=hh;obtain ⟨rfl,hxu⟩:=bj 0 i x j u rfl rfl;have hv:=G6 ig (Ar2 hxu);have e1:u.cells.size=sz:=by have:=Bb hv; simp at this; omega
    have hfl:es.flatten.length=es.length*sz:=by
     clear h bj hc hp h3 hlen;induction es with
     | nil=>simp
     | cons e es ih=>simp only [F1,Cm,Ci]; rw [ih (fun x hx=>hl x bN),hl e (by simp),I9]; omega
    have e2:i*sz+sz<=cells.size:=by
     have:=Bb hc;simp only [It] at this;have h4:(i+1)*sz<=es.length*sz:=F6 _ h3;rw [I9] at h4;omega
    have hf:=Ul hl h3 h1;have ew:VRs C (put es i vs).flatten (u.cells.zipIdx.foldl (fun cs (x:Value × Nat)=>cs.setIfInBounds (i*sz+x.2) x.1) cells).toList:=by
     rw [<- kS,kN,Tq (i*sz) u.cells.toList 0 cells,hf];exact Mk hc hv
    have ef:(put es i vs).flatten.all pure1=true:=by
     rw [C9] at hp h2 ⊢;intro c hc;rw [iM] at hc;obtain ⟨e,he,hce⟩:=hc;rcases Hu he with rfl|he
     ·exact h2 c hce
     ·exact hp c (iM.2 ⟨e,he,hce⟩)
    have p9:∀ e ∈ put es i vs,e.length=sz:=by
     intro e he;rcases Hu he with rfl|he
     ·exact h1
     ·exact hl e he
    obtain ⟨out,k1,k2,k3,k4,k5⟩:=Rq h p9 ef ew (by simpa using hlen) (fun k i' x' j' u' a b=>bj (k+1) i' x' j' u' (by simpa using a) (by simpa using b));refine ⟨out,?_,k2,k3,k4,by rw [k5,Am]⟩;have:Si (fun i=>some (i*sz,sz)) cells ((i,u) :: us)=Si (fun i=>some (i*sz,sz)) (u.cells.zipIdx.foldl (fun cs (x:Value × Nat)=>cs.setIfInBounds (i*sz+x.2) x.1) cells) us:=by
     simp [Si,e1];omega
    rw [this]; exact k1
   ·simp at h
  ·simp at h
 | [],_ :: _,_,_,_,_,_,_,_,hl,_=>dW
 | _ :: _,[],_,_,_,_,_,_,_,hl,_=>dW
theorem Vi (l:List Value) (s:Nat) (hs:l.length=s) (h0:0<s):∀ n,(C8 (n*s)).map (fun i=>l[i % s]!)=(Cg n l).flatten
 | 0=>by simp
 | n+1=>by
  have ih:=Vi l s hs h0 n;rw [List.replicate_succ',kO,<- ih];rw [I9,List.range_add,Fk];congr 1;simp only [kR,F1,jS,Fo];apply List.ext_getElem
  ·simp [hs]
  ·intro i h1 h2;simp only [List.getElem_map,List.getElem_range,Function.comp];have hi:i<s:=aW
   rw [Nat.mul_add_mod_self_right,Se hi];simp [h2]
theorem Jb (w:World) (e:TypeId) (cells:Array Value):(newRow e cells).run P w=.ok ⟨w.heap.size,0,none⟩ (w.alloc (.cells cells e)):=rfl
theorem Ax (w:World) (o:Obj):(w.alloc o).heap[w.heap.size]?=some o:=by
 show (w.heap.push o)[w.heap.size]?=some o;simp
theorem R2 [Globs] {C:Cx} (hs:SR C) {ρA:Operand->AV} {ρ:Operand->Value} (hρ:∀ x,VR C (ρA x) (ρ x)) {t e:TypeId} {len sz:Nat} {ps:Array (Nat × Operand)} {z:List AV} {es:List (List AV)} (he:Bc P t=some e) (hsz:szOf P e=some (sz+1)) (hz:A2 P e=some z)
  (hzl:z.length=sz+1) (hzp:(z.all fun c=>pure1 (w1 c))=true) (b7:len*(sz+1)<=4096) (h:elemsA (sz+1) (Cg len (z.map w1)) (ps.toList.map fun (i,x)=>(i,ρA x))=some es) :
  ∃ v w',(jT t len (ps.map fun (i,x)=>(i,ρ x))).run P C.w=.ok v w'/\Below C.w.heap.size C.w w'/\VR (C.at w') (.frz es .tight) v:=by
 obtain ⟨zv,hz1,rfl⟩:=Kl (w:=C.w) hz;have uz:zv.cells.size=sz+1:=by simpa using hzl
 have hz0:VRs C (Cg len ((zv.cells.toList.map cst1).map w1)).flatten (Cg len zv.cells.toList).flatten:=by
  clear h b7;induction len with
  | zero=>simp [VRs]
  | succ n ih=>simp only [Og,F1]; exact He (Wl (Js _)) ih
 have hcells:((iE (len*(sz+1))).map fun i=>zv.cells[i % zv.cells.size]!).toList=(Cg len zv.cells.toList).flatten:=by
  rw [<- Vi zv.cells.toList (sz+1) (by simpa using uz) aA len];simp [uz,Array.toList_range];intro a _; rw [getElem!_def]; cases zv.cells[a % (sz+1)]? <;> rfl
 obtain ⟨out,h1,h2,h3,h4,h5⟩:=Rq (C:=C) (us:=ps.toList.map fun (i,x)=>(i,ρ x)) (cells:=(iE (len*(sz+1))).map fun i=>zv.cells[i % zv.cells.size]!) h (by
   intro e he; rw [Ip] at he; rw [he.2]; simpa using hzl) (by
   rw [C9] at hzp ⊢;intro c hc;rw [iM] at hc;obtain ⟨l,hl,hc⟩:=hc;rw [Ip] at hl;rw [hl.2,F9] at hc;obtain ⟨c',ew,rfl⟩:=hc;exact hzp c' ew) (by rw [hcells]; exact hz0) (by simp) (by
   intro k i x j u h1 h2;simp only [Et,Cc] at h1 h2;obtain ⟨⟨a,b⟩,h3,h4⟩:=h1;obtain ⟨⟨a',b'⟩,h5,h6⟩:=h2;rw [h3] at h5;simp only [Ba,Cf] at h5 h4 h6;obtain ⟨rfl,rfl⟩:=h5;obtain ⟨rfl,rfl⟩:=h4;obtain ⟨rfl,rfl⟩:=h6;exact ⟨rfl,hρ _⟩)
 have hb:Below C.w.heap.size C.w (C.w.alloc (.cells out e)):=(Fw _ _).alloc (Ce _) _;refine ⟨.slice (some ⟨C.w.heap.size,0,none⟩) len len,C.w.alloc (.cells out e),?_,hb,?_⟩
 ·have e1:(ps.map fun (i,x)=>(i,ρ x)).toList=ps.toList.map fun (i,x)=>(i,ρ x):=by simp
  have ry:¬ (len*(sz+1) > 2 ^ 24):=aA
  simp only [jT,F0,Bq (D3 he),E7 hsz,Fs,Sem.run_ite];rw [if_neg ry];by_cases hl:len*(sz+1)=0
  ·rw [if_pos hl];have b8:len=0:=by
    rcases Nat.mul_eq_zero.1 hl with h|h
    ·exact h
    ·omega
   subst b8;have e0:∀ (f:Nat->Value),(iE (0*(sz+1))).map f=#[]:=fun f=>by simp
   rw [e0] at h1;simp only [Iu,Fs,e1,e0,h1,F0,Jb]
  ·rw [if_neg hl];simp only [hz1,Fs,e1,h1,F0,Iu,Jb]
 ·simp only [VR];refine ⟨_,len,len,rfl,by simpa using h5,Ce _,rfl,?_⟩;by_cases xc:es=[]
  ·exact .inl xc
  ·right;refine ⟨C.w.heap.size,0,sz+1,rfl,?_⟩;have a0u:∀ o,¬ (C.at (C.w.alloc (.cells out e))).Avoid C.w.heap.size o:=fun o=>hs.fresh (Ce _);have h6:=VRs.mono (Le.of_below hb) _ _ h2;exact Aiv (out:=out) (t:=e) (fz:=(0,0)) (r:=[]) (Ax _ _) a0u h3 (Ka h4 h6) (by simp)
theorem Amb:∀ {vs cs:List AV},cs.length=vs.length->over cs 0 vs=some vs
 | [],[],_=>rfl
 | v :: vs,c :: cs,h=>by simp only [over,Amb (vs:=vs) (cs:=cs) aL,C7]
 | [],_ :: _,h=>aO
 | _ :: _,[],h=>aO
theorem Xr {C:Cx} : ∀ vs:List Value,VRs C (Cg vs.length AV.bot) vs
 | []=>by simp [VRs]
 | _ :: vs=>by simp only [Ci,Og,VRs,VR]; exact ⟨trivial,Xr vs⟩
theorem Ahr [Globs] {C:Cx} (hs:SR C) {ρA:Operand->AV} {ρ:Operand->Value} (hρ:∀ x,VR C (ρA x) (ρ x)) {t e:TypeId} {len sz:Nat} {ps:Array (Nat × Operand)} {z:List AV} {av:AV} (he:Bc P t=some e) (hsz:szOf P e=some (sz+1)) (hz:A2 P e=some z)
  (hzl:z.length=sz+1) (b7:len*(sz+1)<=4096) (h:lit1 (sz+1) len (ps.toList.map fun (i,x)=>(i,ρA x))=some av) :
  ∃ v w',(jT t len (ps.map fun (i,x)=>(i,ρ x))).run P C.w=.ok v w'/\Below C.w.heap.size C.w w'/\VR (C.at w') av v:=by
 obtain ⟨zv,hz1,rfl⟩:=Kl (w:=C.w) hz;have uz:zv.cells.size=sz+1:=by simpa using hzl
 unfold lit1 at h;split at h
 ·rename_i x qa;split at h
  ·rename_i vs ig;split at h
   ·rename_i hh;simp only [Ba] at h; subst h;obtain ⟨y,hy,ja⟩:∃ y,ps.toList=[(0,y)]/\ρA y=x:=by
     match hl:ps.toList with
     | [(i,y)] =>
      rw [hl] at qa;simp only [Cn,Cs,iV,Cf,and_true] at qa;obtain ⟨rfl,h2⟩:=qa;exact ⟨y,rfl,h2⟩
     | []=>rw [hl] at qa; simp at qa
     | _ :: _ :: _=>rw [hl] at qa; simp at qa
    subst ja;have hv:=G6 ig (hρ y);have hvl:=Bb hv;have e1:(ρ y).cells.size=sz+1:=by simp at hvl; omega
    obtain ⟨cells,hcd⟩:∃ cells,cells=(iE (1*(sz+1))).map fun i=>zv.cells[i % zv.cells.size]!:=⟨_,rfl⟩;have a2z:cells.size=sz+1:=by rw [hcd]; simp
    have jo:over (Cg cells.toList.length AV.bot) 0 vs=some vs:=Amb aC;obtain ⟨h1,h2⟩:=Kg jo;obtain ⟨out,oi⟩:∃ out,out=((ρ y).cells.zipIdx.foldl (fun cs (x:Value × Nat)=>cs.setIfInBounds (0*(sz+1)+x.2) x.1) cells):=⟨_,rfl⟩;have ky:VRs C vs out.toList:=by
     rw [oi,<- kS,kN,Tq (0*(sz+1)) (ρ y).cells.toList 0 cells,h1];simp only [Om];exact Mk (Xr _) hv
    have a2a:Si (fun i=>some (i*(sz+1),sz+1)) cells [(0,ρ y)]=some out:=by
     have:Si (fun i=>some (i*(sz+1),sz+1)) cells [(0,ρ y)]=Si (fun i=>some (i*(sz+1),sz+1)) ((ρ y).cells.zipIdx.foldl (fun cs (x:Value × Nat)=>cs.setIfInBounds (0*(sz+1)+x.2) x.1) cells) []:=by
      simp [Si,e1,a2z]
     rw [this,<- oi]; rfl
    have hb:Below C.w.heap.size C.w (C.w.alloc (.cells out e)):=(Fw _ _).alloc (Ce _) _;refine ⟨.slice (some ⟨C.w.heap.size,0,none⟩) 1 1,C.w.alloc (.cells out e),?_,hb,?_⟩
    ·have e2:(ps.map fun (i,x)=>(i,ρ x)).toList=[(0,ρ y)]:=by simp [hy]
     have ry:¬ (1*(sz+1) > 2 ^ 24):=aA
     simp only [jT,F0,Bq (D3 he),E7 hsz,Fs,Sem.run_ite];rw [if_neg ry,if_neg aA];simp only [hz1,Fs,e2,<- hcd,a2a,F0,Iu,Jb]
    ·simp only [VR];refine ⟨C.w.heap.size,out.toList,rfl,K5 fun j v hj=>⟨?_,hs.fresh (Ce _)⟩,VRs.mono (Le.of_below hb) _ _ ky⟩;show (C.w.alloc (.cells out e)).cell? _=_;simp only [Fm,I7,Ax];simpa using hj
   ·simp at h
  ·simp at h
 ·simp at h
theorem Abg {t:TypeId} {m:String} {f:FuncId} (h:mRow P t m=some f):∃ i r p,P.info? t=some i/\i.methods.find? (·.name == m)=some r/\r.path=#[]/\r.func=some (f,p)/\((p=true/\∃ e,P.underlying t=some (.pointer e))\/(p=false/\∃ fs,P.underlying t=some (.struct fs))):=by
 unfold mRow at h;split at h
 ·rename_i r hr;simp only [Ij] at hr;obtain ⟨i,h1,h2⟩:=hr;split at h
  ·rename_i hp;have ef:r.path=#[]:=by simpa using hp
   split at h
   ·rename_i f' e h3 h4;simp only [Ba] at h; subst h;exact ⟨i,r,true,h1,h2,ef,h3,.inl ⟨rfl,e,h4⟩⟩
   ·rename_i f' fs h3 h4;simp only [Ba] at h; subst h;exact ⟨i,r,false,h1,h2,ef,h3,.inr ⟨rfl,fs,h4⟩⟩
   ·simp at h
  ·simp at h
 ·simp at h
theorem V7 {w:World} {t:TypeId} {m:String} {u:Value} (h:(mRow P t m).isSome=true):(nilAhead (P.types.size+iY) t u m).run P w=.ok (some false) w:=by
 obtain ⟨f,hf⟩:=Su.1 h;obtain ⟨i,r,p,h1,h2,h3,h4,h5⟩:=Abg hf;have hd:P.types.size+iY=(P.types.size+iY - 1)+1:=by
   have:0<iY:=aP
   omega
 rw [hd];rcases h5 with ⟨rfl,e,h5⟩|⟨rfl,fs,h5⟩
 ·simp [nilAhead,typeInfo,h1,h2,h3,h4,followBlind]
 ·simp [nilAhead,typeInfo,h1,h2,h3,h4,followBlind,Bq h5]
theorem Ahw {w:World} {t:TypeId} {m:String} {f:FuncId} {u:Value} (h:mRow P t m=some f):(method (P.types.size+iY) t u m).run P w=.ok (f,u) w:=by
 obtain ⟨i,r,p,h1,h2,h3,h4,h5⟩:=Abg h;have hd:P.types.size+iY=(P.types.size+iY - 1)+1:=by
   have:0<iY:=aP
   omega
 rw [hd];rcases h5 with ⟨rfl,e,h5⟩|⟨rfl,fs,h5⟩
 ·exact Ya3r
 ·exact Ya3r
theorem Wz {C:Cx} {x:AV} {v:Value} {n:Nat} (hx:VR C x v) (h:lenA x=some n):∃ a cap,v=.slice a n cap:=by
 unfold lenA at h;split at h
 ·simp only [Ba] at h; subst h;simp only [VR] at hx;obtain ⟨a,len,cap,rfl,e,-⟩:=hx;exact ⟨a,cap,by rw [e]⟩
 ·simp only [Ba] at h; subst h;simp only [VR] at hx;obtain ⟨b,a,cap,rfl,-⟩:=hx;exact ⟨a,cap,rfl⟩
 ·simp at h
theorem Mi {C:Cx} {ρA:Operand->AV} {ρ:Operand->Value} (hρ:∀ x,VR C (ρA x) (ρ x)):∀ l:List Operand,VRs C (l.map ρA) (l.map ρ)
 | []=>eD
 | x :: l=>by simp only [Cn,VRs]; exact ⟨hρ x,Mi hρ l⟩
theorem Ac6 {t:TypeId} (h:Uq P t=true):∃ e,P.underlying t=some (.slice e)/\P.underlying e=some (.int .u8):=by
 unfold Uq at h;cases he:Bc P t with
 | none=>rw [he] at h; simp at h
 | some e =>
  rw [he] at h;simp only [Oj] at h;cases hk:Ke P e with
  | none=>rw [hk] at h; simp at h
  | some k =>
   rw [hk] at h;cases k <;> simp at h;exact ⟨e,D3 he,Qx hk⟩
theorem Aki [Globs] {C:Cx} (hs:SR C) {ρ:Operand->Value} {o:Oper} {s d:TypeId} {x:Operand} {ax av:AV} (hx:VR C ax (ρ x)) (e:o.op=.convert s d x) (h:cvA P s d ax=some av):Gives P C ρ o av:=by
 unfold cvA at h;split at h
 ·rename_i b;split at h
  ·rename_i hh;simp only [Ch,decide_eq_true_eq] at hh;obtain ⟨⟨h1,h2⟩,h3⟩:=hh;simp only [Ba] at h; subst h;obtain ⟨el,g1,g2⟩:=Ac6 h2;simp only [VR] at hx;have hb:Below C.w.heap.size C.w (Lib.bytesWorld C.w el b):=Lib.bytesWorld_below C.w el b;refine ⟨.slice (some ⟨C.w.heap.size,0,none⟩) b.size (grownCap C.w b.size 0 el),Lib.bytesWorld C.w el b,?_,hb,?_⟩
   ·simp only [execOp,e,hx,F0,Lib.run_convert_string_bytes C.w s d el b (Je h1) g1 g2,Fs,Iu]
   ·have hg:=grownCap_ge C.w b.size 0 el;simp only [VR];refine ⟨_,b.size,_,rfl,by simp [bytesL],hg,trivial,.inr ⟨C.w.heap.size,0,1,rfl,?_⟩⟩;have o8:∀ (A:Nat->Nat->Prop) (w:World) (l:List UInt8),PRs w A (l.map fun x=>([.prim (.int .u8 x.toNat)]:List AV)).flatten (l.map fun x=>jC .u8 (x.toNat:Int)):=by
     intro A w l;induction l with
     | nil=>simp [PRs]
     | cons x l ih=>simp only [Cn,F1,Co,Cr,PRs]; exact ⟨by simp [PR,jG],ih⟩
    refine G5 (l:=b.data.toList.map fun x=>jC .u8 (x.toNat:Int)) (fun q hq=>?_) (o8 _ _ _) (K5 fun j v hj=>⟨?_,hs.fresh (Ce _)⟩)
    ·unfold bytesL at hq;rw [F9] at hq;obtain ⟨x,-,rfl⟩:=hq;rfl
    ·have fh:j<b.size:=by
      have:=(F5.1 hj).1;rw [Fg,It] at this;exact this
     rw [Fm];show (Lib.bytesWorld C.w el b).cell? _=_;rw [Lib.bytesWorld_cell C.w el b j fh,<- hj];simp only [Et,List.getD];have:j<b.data.toList.length:=by rw [It]; exact fh
     rw [Io this];rfl
  ·exact .of_has (Tx hx h) bI
 ·exact .of_has (Tx hx h) bI
theorem Ab5 {C:Cx} {x y:AV} {l:List Value} (h:VRs C [x,y] l):∃ u v,l=[u,v]:=by
 match l,h with
 | [u,v],_=>exact ⟨u,v,rfl⟩
 | [],h=>simp only [VRs] at h
 | [_],h=>simp only [VRs,and_false] at h
 | _ :: _ :: _ :: _,h=>simp only [VRs,and_false] at h
theorem Aky [Globs] {C:Cx} (hs:SR C) {ρA:Operand->AV} {ρ:Operand->Value} (hρ:∀ x,VR C (ρA x) (ρ x)) {o:Oper} {av:AV} (h:evQ P o ρA=some av):Gives P C ρ o av:=by
 unfold evQ at h;split at h;case h_1 x e=>simp only [Ba] at h; subst h; exact .of_has (s:=pure (ρ x)) ⟨_,rfl,hρ x⟩ (by simp [execOp,e])
 case h_2 x e=>simp only [Ba] at h; subst h; exact .of_has (s:=pure (ρ x)) ⟨_,rfl,hρ x⟩ (by simp [execOp,e])
 case h_3 c a b e =>
  split at h
  ·rename_i t hc
   simp only [Ba] at h; subst h
   have hv:=hρ c
   rw [hc] at hv; simp only [VR] at hv
   refine ⟨if t then ρ a else ρ b,C.w,by simp [execOp,e,hv,asBool],Fw _ _,?_⟩
   cases t
   ·exact hρ b
   ·exact hρ a
  ·simp at h
 case h_4 b t x y e' e=>exact .of_has (Ag7 (ox:=x) (oy:=y) (hρ x) (hρ y) h) bI
 case h_5 u t x e=>exact .of_has (Ajj (hρ x) h) bI
 case h_6 s d x e=>exact Aki hs (hρ x) e h
 case h_7 t i e =>
  split at h
  ·rename_i vs hc
   have hv:=hρ t
   rw [hc] at hv; simp only [VR] at hv
   obtain ⟨us,e2,hv⟩:=hv
   obtain ⟨v,h1,h2⟩:=Wk hv h
   exact .of_has (s:=Instr.extract (ρ t) i) ⟨v,by rw [e2]; simp at h1; simp [Instr.extract,h1],h2⟩ bI
  ·simp at h
 case h_8 t x k e =>
  split at h
  ·rename_i off sz b cs hf hc
   obtain ⟨fs,f,hu,hfk,h1,h2,h3,h4⟩:=No hf
   have hv:=hρ x
   rw [hc] at hv; simp only [VR] at hv
   obtain ⟨us,e2,hv⟩:=hv
   obtain ⟨v,g1,g2⟩:=Ah1 h2 h3 hv h
   exact .of_has (s:=Instr.field t (ρ x) k) ⟨v,by rw [e2]; simp [Instr.field,Bq hu,hfk,asAgg,h1,g1],g2⟩ bI
  ·simp at h
 case h_9 t x i e=>exact .of_has (Ahk (hρ x) (hρ i) h) bI
 case h_10 t x k e=>exact .of_has (Ahh (hρ x) h) bI
 case h_11 t x i e =>
  split at h
  ·rename_i s k hc hk
   split at h
   ·rename_i ht
    simp only [Cc] at h
    obtain ⟨b,hb,rfl⟩:=h
    have hv:=hρ x
    rw [hc] at hv; simp only [VR] at hv
    obtain ⟨ki,ni⟩:=Ep hk (hρ i)
    refine .of_has (s:=Instr.index t (ρ x) (ρ i)) (.mk ?_) bI
    rw [hv,ni]
    simp [Instr.index,asIntOf,Bq (Je ht),hb]
   ·simp at h
  ·simp at h
 case h_12 t ps e =>
  split at h
  ·rename_i z pl hz hp
   exact .of_has (Acn hρ hz hp h) bI
  ·simp at h
 case h_13 t len ps e =>
  split at h
  ·rename_i el he
   split at h
   ·rename_i sz z hsz hz
    split at h
    ·rename_i hh
     obtain ⟨h1,h2,h3⟩:=hh
     unfold Ahz at h
     split at h
     ·rename_i es xc
      simp only [Ba] at h; subst h
      obtain ⟨v,w',g1,g2,g3⟩:=R2 hs hρ he hsz hz h1 h2 h3 xc
      exact ⟨v,w',Za1v,g2,g3⟩
     ·obtain ⟨v,w',g1,g2,g3⟩:=Ahr hs hρ he hsz hz h1 h3 h
      exact ⟨v,w',Za1v,g2,g3⟩
    ·simp at h
   ·simp at h
  ·simp at h
 case h_14 t x lo hi mx e=>exact .of_has (Abz (hρ x) (Xd hρ lo) (Xd hρ hi) (Xd hρ mx) h) bI
 case h_15 f first caps e =>
  split at h
  ·rename_i hh
   simp only [Ba] at h; subst h
   have hf:first=#[]:=by simpa using hh.1
   refine .of_has (s:=iF (.func f) (first.map ρ) (caps.map ρ)) ⟨.func (.func f) #[] (caps.map ρ),by simp [iF,hf],?_⟩ bI
   simp only [VR]
   exact ⟨_,rfl,Za4w⟩
  ·split at h
   ·rename_i hh
    simp only [Ba] at h; subst h
    have hf:caps=#[]:=by simpa using hh
    refine .of_has (s:=iF (.func f) (first.map ρ) (caps.map ρ)) ⟨.func (.func f) (first.map ρ) #[],by simp [iF,hf],?_⟩ bI
    simp only [VR]
    exact ⟨_,rfl,Za4w⟩
   ·simp at h
 case h_16 c e =>
  split at h
  ·rename_i hb
   have aa:=Mi hρ c.args.toList
   split at h
   ·rename_i s t hc ht
    split at h
    ·rename_i aj
     simp only [Ba] at h; subst h
     rw [hc] at aa
     obtain ⟨u,hu⟩:∃ u,c.args.toList.map ρ=[u]:=by
      exact Ya3o
     rw [hu] at aa
     simp only [VRs,VR,and_true] at aa
     have ha:c.args.map ρ=#[.string s]:=by rw [<- iN]; simp [hu,aa]
     refine ⟨.int .i64 s.size,C.w,?_,Fw _ _,bU⟩
     have zt:c.argTypes=#[t]:=dI
     simp [execOp,e,resolve,hb,ha,invoke,builtin,Builtin.len_,zt,Bq (Je aj),goInt]
    ·simp at h
   ·rename_i x t _ hc ht
    split at h
    ·rename_i aj
     simp only [Cc] at h
     obtain ⟨n,hn,rfl⟩:=h
     rw [hc] at aa
     obtain ⟨u,hu⟩:∃ u,c.args.toList.map ρ=[u]:=by
      exact Ya3o
     rw [hu] at aa
     simp only [VRs,and_true] at aa
     obtain ⟨a,cap,rfl⟩:=Wz aa hn
     have ha:c.args.map ρ=#[.slice a n cap]:=cZ
     obtain ⟨el,he⟩:=Su.1 aj
     refine ⟨.int .i64 n,C.w,?_,Fw _ _,bU⟩
     have zt:c.argTypes=#[t]:=dI
     simp [execOp,e,resolve,hb,ha,invoke,builtin,Builtin.len_,zt,Bq (D3 he),goInt]
    ·simp at h
   ·simp at h
  ·rename_i hb
   have aa:=Mi hρ c.args.toList
   split at h
   ·rename_i x y hc
    rw [hc] at aa
    obtain ⟨u,v,hu⟩:=Ab5 aa
    rw [hu] at aa
    simp only [VRs,and_true] at aa
    have ha:c.args.map ρ=#[u,v]:=cZ
    unfold minA at h
    split at h
    ·split at h
     ·rename_i hk
      subst hk
      simp only [Ba] at h; subst h
      simp only [VR] at aa
      obtain ⟨rfl,rfl⟩:=aa
      refine ⟨_,C.w,?_,Fw _ _,by simp only [VR]; rfl⟩
      simp [execOp,e,resolve,hb,ha,invoke,builtin,Builtin.min_,Builtin.min2]
     ·simp at h
    ·simp at h
   ·simp at h
  ·rename_i hb
   have aa:=Mi hρ c.args.toList
   split at h
   ·rename_i x y hc
    rw [hc] at aa
    obtain ⟨u,v,hu⟩:=Ab5 aa
    rw [hu] at aa
    simp only [VRs,and_true] at aa
    have ha:c.args.map ρ=#[u,v]:=cZ
    unfold maxA at h
    split at h
    ·split at h
     ·rename_i hk
      subst hk
      simp only [Ba] at h; subst h
      simp only [VR] at aa
      obtain ⟨rfl,rfl⟩:=aa
      refine ⟨_,C.w,?_,Fw _ _,by simp only [VR]; rfl⟩
      simp [execOp,e,resolve,hb,ha,invoke,builtin,Builtin.max_,Builtin.max2]
     ·simp at h
    ·simp at h
   ·simp at h
  ·simp at h
 case h_17 m first caps e =>
  split at h
  ·rename_i x hf hcp
   unfold mthA at h
   split at h
   ·rename_i t v hv
    simp only [Ba] at h; subst h
    have hx:=hρ x
    rw [hv] at hx
    simp only [VR] at hx
    obtain ⟨u,hu,hvu⟩:=hx
    have e1:first.map ρ=#[.iface t u]:=by rw [<- iN]; simp [hf,hu]
    have e2:caps.map ρ=#[]:=by rw [<- iN]; simp [hcp]
    refine .of_has (s:=iF (.method m) (first.map ρ) (caps.map ρ)) ⟨.func (.method m) #[.iface t u] #[],by rw [e1,e2]; simp [iF],?_⟩ bI
    simp only [VR]
    exact ⟨u,rfl,hvu⟩
   ·simp at h
  ·simp at h
 case h_18 t x e =>
  split at h
  ·simp at h
  ·rename_i hi
   simp only [Ba] at h; subst h
   obtain ⟨ut,hut,hni⟩:∃ ut,P.underlying t=some ut/\∀ ms,ut≠.interface ms:=by
    unfold Ahm at hi;split at hi
    ·simp at hi
    ·simp at hi
    ·rename_i h1 h2;cases hu:P.underlying t with
     | none=>exact absurd hu h2
     | some ut=>exact ⟨ut,rfl,fun ms hms=>h1 ms (by rw [hu,hms])⟩
   refine .of_has (s:=Instr.makeInterface t (ρ x)) ⟨.iface t (ρ x),?_,?_⟩ bI
   ·simp only [Instr.makeInterface,F0,Bq hut,Fs]
    cases ut <;> first|rfl|exact absurd rfl (hni _)
   ·simp only [VR]
    exact ⟨_,rfl,hρ x⟩
 case h_19 x e =>
  have hx:=hρ x
  unfold chkM at h
  split at h
  ·rename_i t m v hv
   split at h
   ·rename_i hm
    simp only [Ba] at h; subst h
    rw [hv] at hx
    have hx':=hx
    simp only [VR] at hx'
    obtain ⟨u,hb,-⟩:=hx'
    refine ⟨ρ x,C.w,?_,Fw _ _,hx⟩
    have hna:=V7 (P:=P) (w:=C.w) (u:=u) hm
    simp [execOp,e,hb,hna]
   ·simp at h
  unfold chkA at h
  split at h
  ·rename_i id ep off hv
   simp only [Ba] at h; subst h
   rw [hv] at hx
   have hx':=hx
   simp only [VR] at hx'
   obtain ⟨b,hb,-⟩:=hx'
   exact ⟨ρ x,C.w,eI,Fw _ _,hx⟩
  ·rename_i cs hv
   simp only [Ba] at h; subst h
   rw [hv] at hx
   have hx':=hx
   simp only [VR] at hx'
   obtain ⟨b,o,vs,hb,-⟩:=hx'
   exact ⟨ρ x,C.w,eI,Fw _ _,hx⟩
  ·rename_i f caps hv
   simp only [Ba] at h; subst h
   rw [hv] at hx
   have hx':=hx
   simp only [VR] at hx'
   obtain ⟨vs,hb,-⟩:=hx'
   exact ⟨ρ x,C.w,eI,Fw _ _,hx⟩
  ·rename_i f first hv
   simp only [Ba] at h; subst h
   rw [hv] at hx
   have hx':=hx
   simp only [VR] at hx'
   obtain ⟨vs,hb,-⟩:=hx'
   exact ⟨ρ x,C.w,eI,Fw _ _,hx⟩
  ·rename_i t v hv
   simp only [Ba] at h; subst h
   rw [hv] at hx
   have hx':=hx
   simp only [VR] at hx'
   obtain ⟨u,hb,-⟩:=hx'
   exact ⟨ρ x,C.w,eI,Fw _ _,hx⟩
  ·simp at h
 ·simp at h
end
end
end Go.Proofs.YthelkgdmgihhiaaGreat
