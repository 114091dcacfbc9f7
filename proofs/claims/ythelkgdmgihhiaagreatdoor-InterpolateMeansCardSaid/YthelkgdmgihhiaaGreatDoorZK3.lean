/- Part 3. -/
import Derived.Test.YthelkgdmgihhiaaGreatDoorZK2
import Derived.Lib.ConvBytes
import Derived.Lib.AtoiErrMem
import Derived.Below
namespace Go.Proofs.YthelkgdmgihhiaaGreatDoor
section
open Go.RowKit
section
variable {P:Program}
def Cx.at (C:Cx) (w:World):Cx:={ C with w:=w }
theorem A5 {w w':World} (h:Below w.heap.size w w') {b:Nat} {o:Obj} (hb:w.heap[b]?=some o):w'.heap[b]?=some o:=by
 rw [h.block b (Array.getElem?_eq_some_iff.1 hb).1]; exact hb
theorem Le.of_below {C:Cx} {w':World} (h:Below C.w.heap.size C.w w'):Le C (C.at w') :=
 ⟨h.os,h.tape,h.output,h.size,rfl,Nat.le_refl _,fun _ _ _ m=>m,fun b o v hv _=>by rw [show (C.at w').w=w' from rfl,Below.cell h (Dg hv)]; exact hv,fun b hb _=>h.block b hb,
  fun b cs t fz hb=>⟨cs,A5 h hb,rfl⟩,fun _ e' he _=>⟨e',he,rfl,rfl⟩,fun _ k hk=>⟨k,hk,Nat.le_refl _,fun _=>rfl⟩⟩
theorem SR.of_below [Globs] {C:Cx} {w':World} (hs:SR C) (h:Below C.w.heap.size C.w w'):SR (C.at w'):=by
 have hle:=Le.of_below h
 refine ⟨fun id e he=>?_,hs.ne,hs.tok,hs.apart,hs.own,fun b o ha=>Nat.lt_of_lt_of_le (hs.avlt b o ha) h.size,fun i o hi h1 h2=>Nat.lt_of_lt_of_le (hs.tlt i o hi h1 h2) h.size,Kl hs hle⟩
 obtain ⟨h1,cs,t,h2,vs,r,h3,h4⟩:=hs.ent id e he
 exact ⟨h1,cs,t,A5 h h2,vs,r,h3,VRs.mono hle _ _ h4⟩
def Gives (P:Program) (C:Cx) (ρ:Operand->Value) (o:Oper) (av:AV):Prop:=∃ v w',(execOp ρ o).run P C.w=.ok (.value v) w'/\Below C.w.heap.size C.w w'/\VR (C.at w') av v
theorem Gives.of_has {C:Cx} {ρ:Operand->Value} {o:Oper} {av:AV} {s:Sem Value} (h:Has P C s av) (he:execOp ρ o=(do pure (.value (<- s)))):Gives P C ρ o av:=by
 obtain ⟨v,h1,h2⟩:=h
 exact ⟨v,C.w,by rw [he]; simp [h1],Below.refl _ _,h2⟩
theorem Ge {t:TypeId} {z:List AV} {w:World} (h:Ae P t=some z):∃ v:Value,(zeroValue t).run P w=.ok v w/\z=v.cells.toList.map cst1:=by
 simp only [Ae,Option.map_eq_some_iff,Option.bind_eq_some_iff] at h
 obtain ⟨v,⟨i,h1,h2⟩,rfl⟩:=h
 exact ⟨v,by simp [zeroValue,typeInfo,h1,h2],rfl⟩
theorem Lz {w:World} : ∀ {fs:List Field} {pl:List (Nat × Nat)},Ly P fs=some pl->(fs.mapM (m:=Sem) fun f=>do pure (f.offset,<- Go.sizeOf f.type)).run P w=.ok pl w
 | [],_,h=>by simp only [Ly,Option.some.injEq] at h; subst h; simp
 | f :: fs,_,h=>by
  simp only [Ly] at h
  split at h
  ·rename_i s l h1 h2
   simp only [Option.some.injEq] at h; subst h
   have ih:=Lz (w:=w) h2
   rw [List.mapM_cons]
   simp only [Sem.run_bind,B5 h1,Result.andThen_ok,Sem.run_pure,ih]
  ·simp at h
theorem Tx {C:Cx} {ρA:Operand->AV} {ρ:Operand->Value} (hρ:∀ x,VR C (ρA x) (ρ x)) {t:TypeId} {ps:Array (Nat × Operand)} {z:List AV} {pl:List (Nat × Nat)} {av:AV} (hz:Ae P t=some z) (hp:fieldsOf P t=some pl)
  (h:(fillA pl z (ps.toList.map fun (i,x)=>(i,ρA x))).map AV.agg=some av):Has P C (Instr.build t (ps.map fun (i,x)=>(i,ρ x))) av:=by
 simp only [Option.map_eq_some_iff] at h
 obtain ⟨ds,h,rfl⟩:=h
 obtain ⟨zv,hz1,rfl⟩:=Ge (w:=C.w) hz
 unfold fieldsOf at hp
 split at hp
 ·rename_i fs hu
  have hm:=Lz (w:=C.w) hp
  obtain ⟨out,h1,h2,-⟩:=Nr (C:=C) (pl:=pl) (place:=fun i=>pl.toArray[i]?) (us:=ps.toList.map fun (i,x)=>(i,ρ x)) (cells:=zv.cells) (fun i=>by simp [Ab]) h (Ep _) (by simp) (by
   intro k i x j u h1 h2
   simp only [List.getElem?_map,Option.map_eq_some_iff] at h1 h2
   obtain ⟨⟨a,b⟩,h3,h4⟩:=h1
   obtain ⟨⟨a',b'⟩,h5,h6⟩:=h2
   rw [h3] at h5
   simp only [Option.some.injEq,Prod.mk.injEq] at h5 h4 h6
   obtain ⟨rfl,rfl⟩:=h5
   obtain ⟨rfl,rfl⟩:=h4
   obtain ⟨rfl,rfl⟩:=h6
   exact ⟨rfl,hρ _⟩)
  refine ⟨.agg out,?_,by simp only [VR]; exact ⟨out,rfl,h2⟩⟩
  have e1:(ps.map fun (i,x)=>(i,ρ x)).toList=ps.toList.map fun (i,x)=>(i,ρ x):=by simp
  have e2:(fs.mapM (m:=Sem) fun f=>do pure (f.offset,<- Go.sizeOf f.type)).run P C.w=.ok pl.toArray C.w:=by
   rw [Array.mapM_eq_mapM_toList,Sem.run_map,hm]; rfl
  simp only [Instr.build,Sem.run_bind,hz1,Result.andThen_ok,An hu,e2,e1,h1,Sem.run_pure]
 ·simp at hp
theorem SR.fresh [Globs] {C:Cx} (hs:SR C) {b o:Nat} (hb:C.w.heap.size<=b):¬ C.Avoid b o:=by
 rintro (h|⟨id,hid,h⟩|⟨id,hid,h1,h2,h3⟩)
 ·have:=hs.avlt b o h; omega
 ·obtain ⟨e,he⟩:∃ e,nth C.S id=some e:=⟨C.S[id],by rw [Ab]; exact List.getElem?_eq_getElem hid⟩
  obtain ⟨-,cs,t,h2,-⟩:=hs.ent id e he
  have:=(Array.getElem?_eq_some_iff.1 h2).1
  omega
 ·have:=hs.tlt id o hid h2 h3
  omega
theorem Mq:∀ {e vs r:List AV},vs.length=e.length->puts (e++r) 0 vs=vs++r
 | [],[],_,_=>rfl
 | e :: es,v :: vs,r,h=>by
  simp only [List.cons_append,puts,put]
  rw [Hi,Mq (by simpa using h)]
 | [],_ :: _,_,h=>by simp at h
 | _ :: _,[],_,h=>by simp at h
theorem R9:∀ {e r vs:List AV} {k:Nat},puts (e++r) (e.length+k) vs=e++puts r k vs
 | [],r,vs,k=>by simp
 | e :: es,r,vs,k=>by
  simp only [List.cons_append,List.length_cons]
  rw [show es.length+1+k=es.length+k+1 from by omega,Hi,R9]
theorem L0 {sz:Nat} : ∀ {es:List (List AV)} {i:Nat} {vs:List AV},(∀ e ∈ es,e.length=sz)->i<es.length->vs.length=sz->(put es i vs).flatten=puts es.flatten (i*sz) vs
 | e :: es,0,vs,h,_,hv=>by
  simp only [put,List.flatten_cons,Nat.zero_mul]
  rw [Mq (by rw [hv,h e (by simp)])]
 | e :: es,i+1,vs,h,hi,hv=>by
  simp only [put,List.flatten_cons]
  rw [L0 (fun x hx=>h x (by simp [hx])) (by simpa using hi) hv]
  rw [show (i+1)*sz=e.length+i*sz from by rw [h e (by simp),Nat.succ_mul]; omega,R9]
 | [],_,_,_,hi,_=>by simp at hi
theorem Um {α:Type} : ∀ {l:List α} {i:Nat} {v x:α},x ∈ put l i v->x=v\/x ∈ l
 | _ :: _,0,_,_,h=>by simp only [put,List.mem_cons] at h ⊢; rcases h with h|h <;> simp [h]
 | y :: l,i+1,v,x,h=>by
  simp only [put,List.mem_cons] at h ⊢
  rcases h with h|h
  ·simp [h]
  ·rcases Um h with h|h <;> simp [h]
 | [],_,_,_,h=>by simp [put] at h
theorem A6 {α:Type} : ∀ {l:List α} {i:Nat} {v:α},(put l i v).length=l.length
 | [],_,_=>rfl
 | _ :: _,0,_=>rfl
 | _ :: l,i+1,v=>by simp [put,A6]
theorem J5:∀ {vs cs:List AV} {o:Nat},(puts cs o vs).length=cs.length
 | [],_,_=>rfl
 | v :: vs,cs,o=>by simp only [puts]; rw [J5,A6]
theorem Qo {w:World} {A:Nat->Nat->Prop} : ∀ {e r:List AV} {l:List Value},PRs w A (e++r) l->PRs w A e (l.take e.length)/\PRs w A r (l.drop e.length)
 | [],r,l,h=>⟨by simp [PRs],by simpa using h⟩
 | c :: e,r,[],h=>by simp [PRs] at h
 | c :: e,r,v :: l,h=>by
  simp only [List.cons_append,PRs] at h
  obtain ⟨h1,h2⟩:=Qo h.2
  exact ⟨by simp only [List.length_cons,List.take_succ_cons,PRs]; exact ⟨h.1,h1⟩,by simpa using h2⟩
theorem Eb {w:World} {A:Nat->Nat->Prop} : ∀ {e r:List AV} {l m:List Value},PRs w A e l->PRs w A r m->PRs w A (e++r) (l++m)
 | [],_,[],_,_,h=>h
 | _ :: _,_,_ :: _,_,h,h'=>by simp only [List.cons_append,PRs] at h ⊢; exact ⟨h.1,Eb h.2 h'⟩
 | [],_,_ :: _,_,h,_=>by simp only [PRs] at h
 | _ :: _,_,[],_,h,_=>by simp only [PRs] at h
theorem G0 {w':World} {A:Nat->Nat->Prop} {b:Nat} : ∀ {l:List Value} {o:Nat},(∀ j v,l[j]?=some v->w'.cell? ⟨b,o+j,none⟩=some v/\¬ A b (o+j))->Lie w' A b o l
 | [],_,_=>trivial
 | v :: l,o,h=>⟨by simpa using (h 0 v rfl).1,by simpa using (h 0 v rfl).2,G0 fun j u hu=>by
   have:=h (j+1) u (by simpa using hu)
   rwa [show o+(j+1)=o+1+j from by omega] at this⟩
theorem Gy {w':World} {A:Nat->Nat->Prop} {b:Nat} : ∀ {l:List Value} {o:Nat},Lie w' A b o l->∀ (j:Nat) (v:Value),l[j]?=some v->w'.cell? ⟨b,o+j,none⟩=some v/\¬ A b (o+j)
 | _ :: _,_,h,0,_,e=>by simp at e; subst e; exact ⟨h.1,h.2.1⟩
 | _ :: l,o,h,j+1,v,e=>by
  have:=Gy h.2.2 j v (by simpa using e)
  rwa [show o+1+j=o+(j+1) from by omega] at this
 | [],_,_,_,_,e=>by simp at e
theorem Dk {w':World} {A:Nat->Nat->Prop} {b sz:Nat} : ∀ {es:List (List AV)} {o:Nat} {l:List Value},(∀ e ∈ es,e.length=sz)->PRs w' A es.flatten l->Lie w' A b o l->Ap w' A b sz o es
 | [],_,_,_,_,_=>by simp only [Ap]
 | e :: es,o,l,hl,h,gr=>by
  simp only [Ap]
  simp only [List.flatten_cons] at h
  obtain ⟨h1,h2⟩:=Qo h
  have he:=hl e (by simp)
  refine ⟨he,⟨_,?_,h1⟩,Dk (fun x hx=>hl x (by simp [hx])) h2 ?_⟩
  ·exact G0 fun j v hj=>Gy gr j v (by
    rw [List.getElem?_take] at hj
    split at hj
    ·exact hj
    ·simp at hj)
  ·rw [<- he]; exact K6 _ gr
theorem Dv {w':World} {A:Nat->Nat->Prop} {b sz:Nat} : ∀ {es:List (List AV)} {o:Nat},Ap w' A b sz o es->∃ l,l.length=es.length*sz/\PRs w' A es.flatten l/\Lie w' A b o l
 | [],_,_=>⟨[],by simp,by simp [PRs],trivial⟩
 | e :: es,o,h=>by
  simp only [Ap] at h
  obtain ⟨h1,⟨vs,hl,hp⟩,h3⟩:=h
  obtain ⟨l,g1,g2,g3⟩:=Dv h3
  have hv:vs.length=sz:=by rw [<- Kg hp,h1]
  refine ⟨vs++l,by simp only [List.length_append,List.length_cons,Nat.succ_mul]; omega,by simp only [List.flatten_cons]; exact Eb hp g2,?_⟩
  refine G0 fun j v hj=>?_
  rw [List.getElem?_append] at hj
  split at hj
  ·exact Gy hl j v hj
  ·rename_i hn
   have:=Gy g3 _ v hj
   rwa [show o+sz+(j - vs.length)=o+j from by omega] at this
theorem X5 {w':World} {A:Nat->Nat->Prop} {b sz:Nat} {out:Array Value} {t:TypeId} {fz:Nat × Nat} (hb:w'.heap[b]?=some (.cells out t fz)) (hA:∀ o,¬ A b o) {es:List (List AV)} {l r:List Value} (hl:∀ e ∈ es,e.length=sz) (h:PRs w' A es.flatten l) (df:out.toList=l++r):Ap w' A b sz 0 es :=
 Dk hl h (G0 fun j v hj=>⟨by
  have bg:out.toList[j]?=some v:=by rw [df,List.getElem?_append_left (List.getElem?_eq_some_iff.1 hj).1]; exact hj
  have:out[j]?=some v:=by simpa using bg
  simp [World.cell?,hb,this],hA _⟩)
theorem Kz {C:Cx} {sz:Nat} : ∀ {ps:List (Nat × AV)} {us:List (Nat × Value)} {es es':List (List AV)} {cells:Array Value},elemsA sz es ps=some es'->(∀ e ∈ es,e.length=sz)->es.flatten.all pure1=true->VRs C es.flatten cells.toList ->
  ps.length=us.length->(∀ (k i:Nat) (x:AV) (j:Nat) (u:Value),ps[k]?=some (i,x)->us[k]?=some (j,u)->i=j/\VR C x u) ->
  ∃ out,Instr.fill (fun i=>some (i*sz,sz)) cells us=some out/\VRs C es'.flatten out.toList/\(∀ e ∈ es',e.length=sz)/\es'.flatten.all pure1=true/\es'.length=es.length
 | [],[],es,es',cells,h,hl,hp,hc,_,_=>by simp only [elemsA,Option.some.injEq] at h; subst h; exact ⟨cells,rfl,hc,hl,hp,rfl⟩
 | (i,x) :: ps,(j,u) :: us,es,es',cells,h,hl,hp,hc,hlen,hall=>by
  simp only [elemsA] at h
  split at h
  ·rename_i vs cw
   split at h
   ·rename_i hh
    obtain ⟨h1,h2,h3⟩:=hh
    obtain ⟨rfl,mb⟩:=hall 0 i x j u rfl rfl
    have hv:=Dl cw (Aeb mb)
    have e1:u.cells.size=sz:=by have:=Ah hv; simp at this; omega
    have hfl:es.flatten.length=es.length*sz:=by
     clear h hall hc hp h3 hlen
     induction es with
     | nil=>simp
     | cons e es ih=>simp only [List.flatten_cons,List.length_append,List.length_cons]; rw [ih (fun x hx=>hl x (by simp [hx])),hl e (by simp),Nat.succ_mul]; omega
    have e2:i*sz+sz<=cells.size:=by
     have:=Ah hc
     simp only [Array.length_toList] at this
     have h4:(i+1)*sz<=es.length*sz:=Nat.mul_le_mul_right _ h3
     rw [Nat.succ_mul] at h4
     omega
    have hf:=L0 hl h3 h1
    have az:VRs C (put es i vs).flatten (u.cells.zipIdx.foldl (fun cs (x:Value × Nat)=>cs.setIfInBounds (i*sz+x.2) x.1) cells).toList:=by
     rw [<- Array.foldl_toList,Array.toList_zipIdx,Lg (i*sz) u.cells.toList 0 cells,hf]
     exact Hn hc hv
    have cz:(put es i vs).flatten.all pure1=true:=by
     rw [List.all_eq_true] at hp h2 ⊢
     intro c hc
     rw [List.mem_flatten] at hc
     obtain ⟨e,he,oi⟩:=hc
     rcases Um he with rfl|he
     ·exact h2 c oi
     ·exact hp c (List.mem_flatten.2 ⟨e,he,oi⟩)
    have hl':∀ e ∈ put es i vs,e.length=sz:=by
     intro e he
     rcases Um he with rfl|he
     ·exact h1
     ·exact hl e he
    obtain ⟨out,k1,k2,k3,k4,k5⟩:=Kz h hl' cz az (by simpa using hlen) (fun k i' x' j' u' a b=>hall (k+1) i' x' j' u' (by simpa using a) (by simpa using b))
    refine ⟨out,?_,k2,k3,k4,by rw [k5,A6]⟩
    have:Instr.fill (fun i=>some (i*sz,sz)) cells ((i,u) :: us)=Instr.fill (fun i=>some (i*sz,sz)) (u.cells.zipIdx.foldl (fun cs (x:Value × Nat)=>cs.setIfInBounds (i*sz+x.2) x.1) cells) us:=by
     simp [Instr.fill,e1]
     omega
    rw [this]; exact k1
   ·simp at h
  ·simp at h
 | [],_ :: _,_,_,_,_,_,_,_,hl,_=>by simp at hl
 | _ :: _,[],_,_,_,_,_,_,_,hl,_=>by simp at hl
theorem Mr (l:List Value) (s:Nat) (hs:l.length=s) (h0:0<s):∀ n,(List.range (n*s)).map (fun i=>l[i % s]!)=(List.replicate n l).flatten
 | 0=>by simp
 | n+1=>by
  have ih:=Mr l s hs h0 n
  rw [List.replicate_succ',List.flatten_append,<- ih]
  rw [Nat.succ_mul,List.range_add,List.map_append]
  congr 1
  simp only [List.map_map,List.flatten_cons,List.flatten_nil,List.append_nil]
  apply List.ext_getElem
  ·simp [hs]
  ·intro i h1 h2
   simp only [List.getElem_map,List.getElem_range,Function.comp]
   have hi:i<s:=by simpa using h1
   rw [Nat.mul_add_mod_self_right,Nat.mod_eq_of_lt hi]
   simp [h2]
theorem Ec (w:World) (e:TypeId) (cells:Array Value):(newRow e cells).run P w=.ok ⟨w.heap.size,0,none⟩ (w.alloc (.cells cells e)):=rfl
theorem Aa (w:World) (o:Obj):(w.alloc o).heap[w.heap.size]?=some o:=by
 show (w.heap.push o)[w.heap.size]?=some o
 simp
theorem K5 [Globs] {C:Cx} (hs:SR C) {ρA:Operand->AV} {ρ:Operand->Value} (hρ:∀ x,VR C (ρA x) (ρ x)) {t e:TypeId} {len sz:Nat} {ps:Array (Nat × Operand)} {z:List AV} {es:List (List AV)} (he:Au P t=some e) (hsz:szOf P e=some (sz+1)) (hz:Ae P e=some z)
  (hzl:z.length=sz+1) (oj:(z.all fun c=>pure1 (w1 c))=true) (ak:len*(sz+1)<=4096) (h:elemsA (sz+1) (List.replicate len (z.map w1)) (ps.toList.map fun (i,x)=>(i,ρA x))=some es) :
  ∃ v w',(Instr.buildSlice t len (ps.map fun (i,x)=>(i,ρ x))).run P C.w=.ok v w'/\Below C.w.heap.size C.w w'/\VR (C.at w') (.frz es .tight) v:=by
 obtain ⟨zv,hz1,rfl⟩:=Ge (w:=C.w) hz
 have dx:zv.cells.size=sz+1:=by simpa using hzl
 have hz0:VRs C (List.replicate len ((zv.cells.toList.map cst1).map w1)).flatten (List.replicate len zv.cells.toList).flatten:=by
  clear h ak
  induction len with
  | zero=>simp [VRs]
  | succ n ih=>simp only [List.replicate_succ,List.flatten_cons]; exact Dw (Nm (Ep _)) ih
 have hcells:((Array.range (len*(sz+1))).map fun i=>zv.cells[i % zv.cells.size]!).toList=(List.replicate len zv.cells.toList).flatten:=by
  rw [<- Mr zv.cells.toList (sz+1) (by simpa using dx) (by omega) len]
  simp [dx,Array.toList_range]
  intro a _; rw [getElem!_def]; cases zv.cells[a % (sz+1)]? <;> rfl
 obtain ⟨out,h1,h2,h3,h4,h5⟩:=Kz (C:=C) (us:=ps.toList.map fun (i,x)=>(i,ρ x)) (cells:=(Array.range (len*(sz+1))).map fun i=>zv.cells[i % zv.cells.size]!) h (by
   intro e he; rw [List.mem_replicate] at he; rw [he.2]; simpa using hzl) (by
   rw [List.all_eq_true] at oj ⊢
   intro c hc
   rw [List.mem_flatten] at hc
   obtain ⟨l,hl,hc⟩:=hc
   rw [List.mem_replicate] at hl
   rw [hl.2,List.mem_map] at hc
   obtain ⟨c',az,rfl⟩:=hc
   exact oj c' az) (by rw [hcells]; exact hz0) (by simp) (by
   intro k i x j u h1 h2
   simp only [List.getElem?_map,Option.map_eq_some_iff] at h1 h2
   obtain ⟨⟨a,b⟩,h3,h4⟩:=h1
   obtain ⟨⟨a',b'⟩,h5,h6⟩:=h2
   rw [h3] at h5
   simp only [Option.some.injEq,Prod.mk.injEq] at h5 h4 h6
   obtain ⟨rfl,rfl⟩:=h5
   obtain ⟨rfl,rfl⟩:=h4
   obtain ⟨rfl,rfl⟩:=h6
   exact ⟨rfl,hρ _⟩)
 have hb:Below C.w.heap.size C.w (C.w.alloc (.cells out e)):=(Below.refl _ _).alloc (Nat.le_refl _) _
 refine ⟨.slice (some ⟨C.w.heap.size,0,none⟩) len len,C.w.alloc (.cells out e),?_,hb,?_⟩
 ·have e1:(ps.map fun (i,x)=>(i,ρ x)).toList=ps.toList.map fun (i,x)=>(i,ρ x):=by simp
  have gp:¬ (len*(sz+1) > 2 ^ 24):=by omega
  simp only [Instr.buildSlice,Sem.run_bind,An (Be he),B5 hsz,Result.andThen_ok,Sem.run_ite]
  rw [if_neg gp]
  by_cases hl:len*(sz+1)=0
  ·rw [if_pos hl]
   have dj:len=0:=by
    rcases Nat.mul_eq_zero.1 hl with h|h
    ·exact h
    ·omega
   subst dj
   have e0:∀ (f:Nat->Value),(Array.range (0*(sz+1))).map f=#[]:=fun f=>by simp
   rw [e0] at h1
   simp only [Sem.run_pure,Result.andThen_ok,e1,e0,h1,Sem.run_bind,Ec]
  ·rw [if_neg hl]
   simp only [hz1,Result.andThen_ok,e1,h1,Sem.run_bind,Sem.run_pure,Ec]
 ·simp only [VR]
  refine ⟨_,len,len,rfl,by simpa using h5,Nat.le_refl _,rfl,?_⟩
  by_cases gt:es=[]
  ·exact .inl gt
  ·right
   refine ⟨C.w.heap.size,0,sz+1,rfl,?_⟩
   have i5:∀ o,¬ (C.at (C.w.alloc (.cells out e))).Avoid C.w.heap.size o:=fun o=>hs.fresh (Nat.le_refl _)
   have h6:=VRs.mono (Le.of_below hb) _ _ h2
   exact X5 (out:=out) (t:=e) (fz:=(0,0)) (r:=[]) (Aa _ _) i5 h3 (Ew h4 h6) (by simp)
theorem Z6:∀ {vs cs:List AV},cs.length=vs.length->over cs 0 vs=some vs
 | [],[],_=>rfl
 | v :: vs,c :: cs,h=>by simp only [over,Z6 (vs:=vs) (cs:=cs) (by simpa using h),Option.map_some]
 | [],_ :: _,h=>by simp at h
 | _ :: _,[],h=>by simp at h
theorem Pp {C:Cx} : ∀ vs:List Value,VRs C (List.replicate vs.length AV.bot) vs
 | []=>by simp [VRs]
 | _ :: vs=>by simp only [List.length_cons,List.replicate_succ,VRs,VR]; exact ⟨trivial,Pp vs⟩
theorem W5 [Globs] {C:Cx} (hs:SR C) {ρA:Operand->AV} {ρ:Operand->Value} (hρ:∀ x,VR C (ρA x) (ρ x)) {t e:TypeId} {len sz:Nat} {ps:Array (Nat × Operand)} {z:List AV} {av:AV} (he:Au P t=some e) (hsz:szOf P e=some (sz+1)) (hz:Ae P e=some z)
  (hzl:z.length=sz+1) (ak:len*(sz+1)<=4096) (h:lit1 (sz+1) len (ps.toList.map fun (i,x)=>(i,ρA x))=some av) :
  ∃ v w',(Instr.buildSlice t len (ps.map fun (i,x)=>(i,ρ x))).run P C.w=.ok v w'/\Below C.w.heap.size C.w w'/\VR (C.at w') av v:=by
 obtain ⟨zv,hz1,rfl⟩:=Ge (w:=C.w) hz
 have dx:zv.cells.size=sz+1:=by simpa using hzl
 unfold lit1 at h
 split at h
 ·rename_i x ez
  split at h
  ·rename_i vs cw
   split at h
   ·rename_i hh
    simp only [Option.some.injEq] at h; subst h
    obtain ⟨y,hy,cj⟩:∃ y,ps.toList=[(0,y)]/\ρA y=x:=by
     match hl:ps.toList with
     | [(i,y)] =>
      rw [hl] at ez
      simp only [List.map_cons,List.map_nil,List.cons.injEq,Prod.mk.injEq,and_true] at ez
      obtain ⟨rfl,h2⟩:=ez
      exact ⟨y,rfl,h2⟩
     | []=>rw [hl] at ez; simp at ez
     | _ :: _ :: _=>rw [hl] at ez; simp at ez
    subst cj
    have hv:=Dl cw (hρ y)
    have jz:=Ah hv
    have e1:(ρ y).cells.size=sz+1:=by simp at jz; omega
    obtain ⟨cells,ol⟩:∃ cells,cells=(Array.range (1*(sz+1))).map fun i=>zv.cells[i % zv.cells.size]!:=⟨_,rfl⟩
    have mc:cells.size=sz+1:=by rw [ol]; simp
    have i6:over (List.replicate cells.toList.length AV.bot) 0 vs=some vs:=Z6 (by simp; omega)
    obtain ⟨h1,h2⟩:=E6 i6
    obtain ⟨out,lm⟩:∃ out,out=((ρ y).cells.zipIdx.foldl (fun cs (x:Value × Nat)=>cs.setIfInBounds (0*(sz+1)+x.2) x.1) cells):=⟨_,rfl⟩
    have df:VRs C vs out.toList:=by
     rw [lm,<- Array.foldl_toList,Array.toList_zipIdx,Lg (0*(sz+1)) (ρ y).cells.toList 0 cells,h1]
     simp only [Nat.zero_mul]
     exact Hn (Pp _) hv
    have kf:Instr.fill (fun i=>some (i*(sz+1),sz+1)) cells [(0,ρ y)]=some out:=by
     have:Instr.fill (fun i=>some (i*(sz+1),sz+1)) cells [(0,ρ y)]=Instr.fill (fun i=>some (i*(sz+1),sz+1)) ((ρ y).cells.zipIdx.foldl (fun cs (x:Value × Nat)=>cs.setIfInBounds (0*(sz+1)+x.2) x.1) cells) []:=by
      simp [Instr.fill,e1,mc]
     rw [this,<- lm]; rfl
    have hb:Below C.w.heap.size C.w (C.w.alloc (.cells out e)):=(Below.refl _ _).alloc (Nat.le_refl _) _
    refine ⟨.slice (some ⟨C.w.heap.size,0,none⟩) 1 1,C.w.alloc (.cells out e),?_,hb,?_⟩
    ·have e2:(ps.map fun (i,x)=>(i,ρ x)).toList=[(0,ρ y)]:=by simp [hy]
     have gp:¬ (1*(sz+1) > 2 ^ 24):=by omega
     simp only [Instr.buildSlice,Sem.run_bind,An (Be he),B5 hsz,Result.andThen_ok,Sem.run_ite]
     rw [if_neg gp,if_neg (by omega)]
     simp only [hz1,Result.andThen_ok,e2,<- ol,kf,Sem.run_bind,Sem.run_pure,Ec]
    ·simp only [VR]
     refine ⟨C.w.heap.size,out.toList,rfl,G0 fun j v hj=>⟨?_,hs.fresh (Nat.le_refl _)⟩,VRs.mono (Le.of_below hb) _ _ df⟩
     show (C.w.alloc (.cells out e)).cell? _=_
     simp only [Nat.zero_add,World.cell?,Aa]
     simpa using hj
   ·simp at h
  ·simp at h
 ·simp at h
theorem Rz {t:TypeId} {m:String} {f:FuncId} (h:mRow P t m=some f):∃ i r p,P.info? t=some i/\i.methods.find? (·.name == m)=some r/\r.path=#[]/\r.func=some (f,p)/\((p=true/\∃ e,P.underlying t=some (.pointer e))\/(p=false/\∃ fs,P.underlying t=some (.struct fs))):=by
 unfold mRow at h
 split at h
 ·rename_i r hr
  simp only [Option.bind_eq_some_iff] at hr
  obtain ⟨i,h1,h2⟩:=hr
  split at h
  ·rename_i hp
   have cz:r.path=#[]:=by simpa using hp
   split at h
   ·rename_i f' e h3 h4
    simp only [Option.some.injEq] at h; subst h
    exact ⟨i,r,true,h1,h2,cz,h3,.inl ⟨rfl,e,h4⟩⟩
   ·rename_i f' fs h3 h4
    simp only [Option.some.injEq] at h; subst h
    exact ⟨i,r,false,h1,h2,cz,h3,.inr ⟨rfl,fs,h4⟩⟩
   ·simp at h
  ·simp at h
 ·simp at h
theorem Na {w:World} {t:TypeId} {m:String} {u:Value} (h:(mRow P t m).isSome=true):(nilAhead (P.types.size+Made.depth) t u m).run P w=.ok (some false) w:=by
 obtain ⟨f,hf⟩:=Option.isSome_iff_exists.1 h
 obtain ⟨i,r,p,h1,h2,h3,h4,h5⟩:=Rz hf
 have hd:P.types.size+Made.depth=(P.types.size+Made.depth - 1)+1:=by
   have:0<Made.depth:=by decide
   omega
 rw [hd]
 rcases h5 with ⟨rfl,e,h5⟩|⟨rfl,fs,h5⟩
 ·simp [nilAhead,typeInfo,h1,h2,h3,h4,followBlind]
 ·simp [nilAhead,typeInfo,h1,h2,h3,h4,followBlind,An h5]
theorem Xc {w:World} {t:TypeId} {m:String} {f:FuncId} {u:Value} (h:mRow P t m=some f):(method (P.types.size+Made.depth) t u m).run P w=.ok (f,u) w:=by
 obtain ⟨i,r,p,h1,h2,h3,h4,h5⟩:=Rz h
 have hd:P.types.size+Made.depth=(P.types.size+Made.depth - 1)+1:=by
   have:0<Made.depth:=by decide
   omega
 rw [hd]
 rcases h5 with ⟨rfl,e,h5⟩|⟨rfl,fs,h5⟩
 ·simp [method,typeInfo,h1,h2,h3,h4,follow,receiverAt,An h5,Place.get]
 ·simp [method,typeInfo,h1,h2,h3,h4,follow,receiverAt,An h5,Place.get]
theorem N2 {C:Cx} {x:AV} {v:Value} {n:Nat} (hx:VR C x v) (h:lenA x=some n):∃ a cap,v=.slice a n cap:=by
 unfold lenA at h
 split at h
 ·simp only [Option.some.injEq] at h; subst h
  simp only [VR] at hx
  obtain ⟨a,len,cap,rfl,e,-⟩:=hx
  exact ⟨a,cap,by rw [e]⟩
 ·simp only [Option.some.injEq] at h; subst h
  simp only [VR] at hx
  obtain ⟨b,a,cap,rfl,-⟩:=hx
  exact ⟨a,cap,rfl⟩
 ·simp at h
theorem Hl {C:Cx} {ρA:Operand->AV} {ρ:Operand->Value} (hρ:∀ x,VR C (ρA x) (ρ x)):∀ l:List Operand,VRs C (l.map ρA) (l.map ρ)
 | []=>by simp only [List.map_nil,VRs]
 | x :: l=>by simp only [List.map_cons,VRs]; exact ⟨hρ x,Hl hρ l⟩
theorem T8 {t:TypeId} (h:L5 P t=true):∃ e,P.underlying t=some (.slice e)/\P.underlying e=some (.int .u8):=by
 unfold L5 at h
 cases he:Au P t with
 | none=>rw [he] at h; simp at h
 | some e =>
  rw [he] at h
  simp only [Option.bind_some] at h
  cases hk:Ef P e with
  | none=>rw [hk] at h; simp at h
  | some k =>
   rw [hk] at h
   cases k <;> simp at h
   exact ⟨e,Be he,Km hk⟩
theorem Y1 [Globs] {C:Cx} (hs:SR C) {ρ:Operand->Value} {o:Oper} {s d:TypeId} {x:Operand} {ax av:AV} (hx:VR C ax (ρ x)) (e:o.op=.convert s d x) (h:cvA P s d ax=some av):Gives P C ρ o av:=by
 unfold cvA at h
 split at h
 ·rename_i b
  split at h
  ·rename_i hh
   simp only [Bool.and_eq_true,decide_eq_true_eq] at hh
   obtain ⟨⟨h1,h2⟩,h3⟩:=hh
   simp only [Option.some.injEq] at h; subst h
   obtain ⟨el,g1,g2⟩:=T8 h2
   simp only [VR] at hx
   have hb:Below C.w.heap.size C.w (Lib.bytesWorld C.w el b):=Lib.bytesWorld_below C.w el b
   refine ⟨.slice (some ⟨C.w.heap.size,0,none⟩) b.size (grownCap C.w b.size 0 el),Lib.bytesWorld C.w el b,?_,hb,?_⟩
   ·simp only [execOp,e,hx,Sem.run_bind,Lib.run_convert_string_bytes C.w s d el b (Eh h1) g1 g2,Result.andThen_ok,Sem.run_pure]
   ·have hg:=grownCap_ge C.w b.size 0 el
    simp only [VR]
    refine ⟨_,b.size,_,rfl,by simp [bytesL],hg,trivial,.inr ⟨C.w.heap.size,0,1,rfl,?_⟩⟩
    have i7:∀ (A:Nat->Nat->Prop) (w:World) (l:List UInt8),PRs w A (l.map fun x=>([.prim (.int .u8 x.toNat)]:List AV)).flatten (l.map fun x=>Value.int .u8 (x.toNat:Int)):=by
     intro A w l
     induction l with
     | nil=>simp [PRs]
     | cons x l ih=>simp only [List.map_cons,List.flatten_cons,List.cons_append,List.nil_append,PRs]; exact ⟨by simp [PR,Value.oneCell'],ih⟩
    refine Dk (l:=b.data.toList.map fun x=>Value.int .u8 (x.toNat:Int)) (fun q hq=>?_) (i7 _ _ _) (G0 fun j v hj=>⟨?_,hs.fresh (Nat.le_refl _)⟩)
    ·unfold bytesL at hq
     rw [List.mem_map] at hq
     obtain ⟨x,-,rfl⟩:=hq
     rfl
    ·have bg:j<b.size:=by
      have:=(List.getElem?_eq_some_iff.1 hj).1
      rw [List.length_map,Array.length_toList] at this
      exact this
     rw [Nat.zero_add]
     show (Lib.bytesWorld C.w el b).cell? _=_
     rw [Lib.bytesWorld_cell C.w el b j bg,<- hj]
     simp only [List.getElem?_map,List.getD]
     have:j<b.data.toList.length:=by rw [Array.length_toList]; exact bg
     rw [List.getElem?_eq_getElem this]
     rfl
  ·exact .of_has (Ln hx h) (by simp only [execOp,e])
 ·exact .of_has (Ln hx h) (by simp only [execOp,e])
theorem Ti {C:Cx} {x y:AV} {l:List Value} (h:VRs C [x,y] l):∃ u v,l=[u,v]:=by
 match l,h with
 | [u,v],_=>exact ⟨u,v,rfl⟩
 | [],h=>simp only [VRs] at h
 | [_],h=>simp only [VRs,and_false] at h
 | _ :: _ :: _ :: _,h=>simp only [VRs,and_false] at h
theorem Ze [Globs] {C:Cx} (hs:SR C) {ρA:Operand->AV} {ρ:Operand->Value} (hρ:∀ x,VR C (ρA x) (ρ x)) {o:Oper} {av:AV} (h:evQ P o ρA=some av):Gives P C ρ o av:=by
 unfold evQ at h
 split at h
 case h_1 x e=>simp only [Option.some.injEq] at h; subst h; exact .of_has (s:=pure (ρ x)) ⟨_,rfl,hρ x⟩ (by simp [execOp,e])
 case h_2 x e=>simp only [Option.some.injEq] at h; subst h; exact .of_has (s:=pure (ρ x)) ⟨_,rfl,hρ x⟩ (by simp [execOp,e])
 case h_3 c a b e =>
  split at h
  ·rename_i t hc
   simp only [Option.some.injEq] at h; subst h
   have hv:=hρ c
   rw [hc] at hv; simp only [VR] at hv
   refine ⟨if t then ρ a else ρ b,C.w,by simp [execOp,e,hv,asBool],Below.refl _ _,?_⟩
   cases t
   ·exact hρ b
   ·exact hρ a
  ·simp at h
 case h_4 b t x y e' e=>exact .of_has (Wr (ox:=x) (oy:=y) (hρ x) (hρ y) h) (by simp only [execOp,e])
 case h_5 u t x e=>exact .of_has (Yj (hρ x) h) (by simp only [execOp,e])
 case h_6 s d x e=>exact Y1 hs (hρ x) e h
 case h_7 t i e =>
  split at h
  ·rename_i vs hc
   have hv:=hρ t
   rw [hc] at hv; simp only [VR] at hv
   obtain ⟨us,e2,hv⟩:=hv
   obtain ⟨v,h1,h2⟩:=Nl hv h
   exact .of_has (s:=Instr.extract (ρ t) i) ⟨v,by rw [e2]; simp at h1; simp [Instr.extract,h1],h2⟩ (by simp only [execOp,e])
  ·simp at h
 case h_8 t x k e =>
  split at h
  ·rename_i off sz b cs hf hc
   obtain ⟨fs,f,hu,ke,h1,h2,h3,h4⟩:=Je hf
   have hv:=hρ x
   rw [hc] at hv; simp only [VR] at hv
   obtain ⟨us,e2,hv⟩:=hv
   obtain ⟨v,g1,g2⟩:=Xh h2 h3 hv h
   exact .of_has (s:=Instr.field t (ρ x) k) ⟨v,by rw [e2]; simp [Instr.field,An hu,ke,asAgg,h1,g1],g2⟩ (by simp only [execOp,e])
  ·simp at h
 case h_9 t x i e=>exact .of_has (Wz (hρ x) (hρ i) h) (by simp only [execOp,e])
 case h_10 t x k e=>exact .of_has (Ww (hρ x) h) (by simp only [execOp,e])
 case h_11 t x i e =>
  split at h
  ·rename_i s k hc hk
   split at h
   ·rename_i ht
    simp only [Option.map_eq_some_iff] at h
    obtain ⟨b,hb,rfl⟩:=h
    have hv:=hρ x
    rw [hc] at hv; simp only [VR] at hv
    obtain ⟨ki,ln⟩:=Bx hk (hρ i)
    refine .of_has (s:=Instr.index t (ρ x) (ρ i)) (.mk ?_) (by simp only [execOp,e])
    rw [hv,ln]
    simp [Instr.index,asIntOf,An (Eh ht),hb]
   ·simp at h
  ·simp at h
 case h_12 t ps e =>
  split at h
  ·rename_i z pl hz hp
   exact .of_has (Tx hρ hz hp h) (by simp only [execOp,e])
  ·simp at h
 case h_13 t len ps e =>
  split at h
  ·rename_i el he
   split at h
   ·rename_i sz z hsz hz
    split at h
    ·rename_i hh
     obtain ⟨h1,h2,h3⟩:=hh
     unfold Xg at h
     split at h
     ·rename_i es gt
      simp only [Option.some.injEq] at h; subst h
      obtain ⟨v,w',g1,g2,g3⟩:=K5 hs hρ he hsz hz h1 h2 h3 gt
      exact ⟨v,w',by simp only [execOp,e,Sem.run_bind,g1,Result.andThen_ok,Sem.run_pure],g2,g3⟩
     ·obtain ⟨v,w',g1,g2,g3⟩:=W5 hs hρ he hsz hz h1 h3 h
      exact ⟨v,w',by simp only [execOp,e,Sem.run_bind,g1,Result.andThen_ok,Sem.run_pure],g2,g3⟩
    ·simp at h
   ·simp at h
  ·simp at h
 case h_14 t x lo hi mx e=>exact .of_has (Tf (hρ x) (Ph hρ lo) (Ph hρ hi) (Ph hρ mx) h) (by simp only [execOp,e])
 case h_15 f first caps e =>
  split at h
  ·rename_i hh
   simp only [Option.some.injEq] at h; subst h
   have hf:first=#[]:=by simpa using hh.1
   refine .of_has (s:=Instr.makeFunc (.func f) (first.map ρ) (caps.map ρ)) ⟨.func (.func f) #[] (caps.map ρ),by simp [Instr.makeFunc,hf],?_⟩ (by simp only [execOp,e])
   simp only [VR]
   exact ⟨_,rfl,by rw [Array.toList_map]; exact Hl hρ _⟩
  ·split at h
   ·rename_i hh
    simp only [Option.some.injEq] at h; subst h
    have hf:caps=#[]:=by simpa using hh
    refine .of_has (s:=Instr.makeFunc (.func f) (first.map ρ) (caps.map ρ)) ⟨.func (.func f) (first.map ρ) #[],by simp [Instr.makeFunc,hf],?_⟩ (by simp only [execOp,e])
    simp only [VR]
    exact ⟨_,rfl,by rw [Array.toList_map]; exact Hl hρ _⟩
   ·simp at h
 case h_16 c e =>
  split at h
  ·rename_i hb
   have aa:=Hl hρ c.args.toList
   split at h
   ·rename_i s t hc ht
    split at h
    ·rename_i am
     simp only [Option.some.injEq] at h; subst h
     rw [hc] at aa
     obtain ⟨u,hu⟩:∃ u,c.args.toList.map ρ=[u]:=by
      have:=Ah aa
      exact List.length_eq_one_iff.1 (by simpa using this.symm)
     rw [hu] at aa
     simp only [VRs,VR,and_true] at aa
     have ha:c.args.map ρ=#[.string s]:=by rw [<- Array.toList_inj]; simp [hu,aa]
     refine ⟨.int .i64 s.size,C.w,?_,Below.refl _ _,by simp only [VR]⟩
     have gu:c.argTypes=#[t]:=by rw [<- Array.toList_inj]; simp [ht]
     simp [execOp,e,resolve,hb,ha,invoke,builtin,Builtin.len_,gu,An (Eh am),goInt]
    ·simp at h
   ·rename_i x t _ hc ht
    split at h
    ·rename_i am
     simp only [Option.map_eq_some_iff] at h
     obtain ⟨n,hn,rfl⟩:=h
     rw [hc] at aa
     obtain ⟨u,hu⟩:∃ u,c.args.toList.map ρ=[u]:=by
      have:=Ah aa
      exact List.length_eq_one_iff.1 (by simpa using this.symm)
     rw [hu] at aa
     simp only [VRs,and_true] at aa
     obtain ⟨a,cap,rfl⟩:=N2 aa hn
     have ha:c.args.map ρ=#[.slice a n cap]:=by rw [<- Array.toList_inj]; simp [hu]
     obtain ⟨el,he⟩:=Option.isSome_iff_exists.1 am
     refine ⟨.int .i64 n,C.w,?_,Below.refl _ _,by simp only [VR]⟩
     have gu:c.argTypes=#[t]:=by rw [<- Array.toList_inj]; simp [ht]
     simp [execOp,e,resolve,hb,ha,invoke,builtin,Builtin.len_,gu,An (Be he),goInt]
    ·simp at h
   ·simp at h
  ·rename_i hb
   have aa:=Hl hρ c.args.toList
   split at h
   ·rename_i x y hc
    rw [hc] at aa
    obtain ⟨u,v,hu⟩:=Ti aa
    rw [hu] at aa
    simp only [VRs,and_true] at aa
    have ha:c.args.map ρ=#[u,v]:=by rw [<- Array.toList_inj]; simp [hu]
    unfold minA at h
    split at h
    ·split at h
     ·rename_i hk
      subst hk
      simp only [Option.some.injEq] at h; subst h
      simp only [VR] at aa
      obtain ⟨rfl,rfl⟩:=aa
      refine ⟨_,C.w,?_,Below.refl _ _,by simp only [VR]; rfl⟩
      simp [execOp,e,resolve,hb,ha,invoke,builtin,Builtin.min_,Builtin.min2]
     ·simp at h
    ·simp at h
   ·simp at h
  ·rename_i hb
   have aa:=Hl hρ c.args.toList
   split at h
   ·rename_i x y hc
    rw [hc] at aa
    obtain ⟨u,v,hu⟩:=Ti aa
    rw [hu] at aa
    simp only [VRs,and_true] at aa
    have ha:c.args.map ρ=#[u,v]:=by rw [<- Array.toList_inj]; simp [hu]
    unfold maxA at h
    split at h
    ·split at h
     ·rename_i hk
      subst hk
      simp only [Option.some.injEq] at h; subst h
      simp only [VR] at aa
      obtain ⟨rfl,rfl⟩:=aa
      refine ⟨_,C.w,?_,Below.refl _ _,by simp only [VR]; rfl⟩
      simp [execOp,e,resolve,hb,ha,invoke,builtin,Builtin.max_,Builtin.max2]
     ·simp at h
    ·simp at h
   ·simp at h
  ·simp at h
 case h_17 m first caps e =>
  split at h
  ·rename_i x hf md
   unfold mthA at h
   split at h
   ·rename_i t v hv
    simp only [Option.some.injEq] at h; subst h
    have hx:=hρ x
    rw [hv] at hx
    simp only [VR] at hx
    obtain ⟨u,hu,pq⟩:=hx
    have e1:first.map ρ=#[.iface t u]:=by rw [<- Array.toList_inj]; simp [hf,hu]
    have e2:caps.map ρ=#[]:=by rw [<- Array.toList_inj]; simp [md]
    refine .of_has (s:=Instr.makeFunc (.method m) (first.map ρ) (caps.map ρ)) ⟨.func (.method m) #[.iface t u] #[],by rw [e1,e2]; simp [Instr.makeFunc],?_⟩ (by simp only [execOp,e])
    simp only [VR]
    exact ⟨u,rfl,pq⟩
   ·simp at h
  ·simp at h
 case h_18 t x e =>
  split at h
  ·simp at h
  ·rename_i hi
   simp only [Option.some.injEq] at h; subst h
   obtain ⟨ut,pr,pu⟩:∃ ut,P.underlying t=some ut/\∀ ms,ut≠.interface ms:=by
    unfold Aci at hi
    split at hi
    ·simp at hi
    ·simp at hi
    ·rename_i h1 h2
     cases hu:P.underlying t with
     | none=>exact absurd hu h2
     | some ut=>exact ⟨ut,rfl,fun ms me=>h1 ms (by rw [hu,me])⟩
   refine .of_has (s:=Instr.makeInterface t (ρ x)) ⟨.iface t (ρ x),?_,?_⟩ (by simp only [execOp,e])
   ·simp only [Instr.makeInterface,Sem.run_bind,An pr,Result.andThen_ok]
    cases ut <;> first|rfl|exact absurd rfl (pu _)
   ·simp only [VR]
    exact ⟨_,rfl,hρ x⟩
 case h_19 x e =>
  have hx:=hρ x
  unfold chkM at h
  split at h
  ·rename_i t m v hv
   split at h
   ·rename_i hm
    simp only [Option.some.injEq] at h; subst h
    rw [hv] at hx
    have hx':=hx
    simp only [VR] at hx'
    obtain ⟨u,hb,-⟩:=hx'
    refine ⟨ρ x,C.w,?_,Below.refl _ _,hx⟩
    have pw:=Na (P:=P) (w:=C.w) (u:=u) hm
    simp [execOp,e,hb,pw]
   ·simp at h
  unfold chkA at h
  split at h
  ·rename_i id ep off hv
   simp only [Option.some.injEq] at h; subst h
   rw [hv] at hx
   have hx':=hx
   simp only [VR] at hx'
   obtain ⟨b,hb,-⟩:=hx'
   exact ⟨ρ x,C.w,by simp [execOp,e,hb],Below.refl _ _,hx⟩
  ·rename_i cs hv
   simp only [Option.some.injEq] at h; subst h
   rw [hv] at hx
   have hx':=hx
   simp only [VR] at hx'
   obtain ⟨b,o,vs,hb,-⟩:=hx'
   exact ⟨ρ x,C.w,by simp [execOp,e,hb],Below.refl _ _,hx⟩
  ·rename_i f caps hv
   simp only [Option.some.injEq] at h; subst h
   rw [hv] at hx
   have hx':=hx
   simp only [VR] at hx'
   obtain ⟨vs,hb,-⟩:=hx'
   exact ⟨ρ x,C.w,by simp [execOp,e,hb],Below.refl _ _,hx⟩
  ·rename_i f first hv
   simp only [Option.some.injEq] at h; subst h
   rw [hv] at hx
   have hx':=hx
   simp only [VR] at hx'
   obtain ⟨vs,hb,-⟩:=hx'
   exact ⟨ρ x,C.w,by simp [execOp,e,hb],Below.refl _ _,hx⟩
  ·rename_i t v hv
   simp only [Option.some.injEq] at h; subst h
   rw [hv] at hx
   have hx':=hx
   simp only [VR] at hx'
   obtain ⟨u,hb,-⟩:=hx'
   exact ⟨ρ x,C.w,by simp [execOp,e,hb],Below.refl _ _,hx⟩
  ·simp at h
 ·simp at h
end
end
end Go.Proofs.YthelkgdmgihhiaaGreatDoor
