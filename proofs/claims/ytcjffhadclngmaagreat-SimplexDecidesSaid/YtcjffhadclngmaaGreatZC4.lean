/- Part 4. -/
import Derived.Test.YtcjffhadclngmaaGreatZC3
import Derived.Lib.ConvBytes
import Derived.Lib.AtoiErrMem
import Derived.Below
open Array renaming getElem?_eq_some_iff->Ck,length_toList->I4,range->Xe,toList_inj->iH,toList_zipIdx->kO,foldl_toList->kR
open Bool renaming and_eq_true->Ci
open Go renaming sizeOf->lB
open Go.Instr renaming fill->Q7,makeFunc->Ya,buildSlice->jU
open Go.Made renaming depth->iX
open Go.Result renaming andThen_ok->Fh
open Go.RowKit.Below renaming refl->Fp,cell->lD
open Go.Sem renaming run_bind->Fw,run_pure->I9
open Go.Value renaming oneCell'->jF,int->jV
open Go.World renaming cell?->N5
open List renaming replicate->Cf,length_cons->Ch,length_append->Cm,cons_append->Cn,nil_append->Cq,map_cons->Ct,mem_cons->Cv,getElem?_map->Cw,range->Cz,getElem?_append_left->C3,map_nil->Ei,all_eq_true->Fb,length_map->Fj,mem_map->Ft,getElem?_eq_some_iff->Fx,append_nil->Fy,flatten_cons->F3,map_append->F4,take_succ_cons->F7,getElem?_eq_getElem->Iw,mem_replicate->Ix,getElem?_take->Od,replicate_succ->Om,mem_flatten->iG,map_map->jE,replicate_succ'->kB
open List.cons renaming injEq->kH
open Nat renaming le_refl->Ce,zero_add->El,lt_of_lt_of_le->F1,mul_le_mul_right->F2,succ_mul->Oa,zero_mul->Ov,mod_eq_of_lt->Po
open Option renaming map_eq_some_iff->Cd,map_some->C8,bind_eq_some_iff->Io,bind_some->Ou,isSome_iff_exists->Ss
open Option.some renaming injEq->A8
open Prod.mk renaming injEq->Cg
namespace Go.Proofs.YtcjffhadclngmaaGreat
section
open Go.RowKit
section
variable {P:Program}
def Cx.at (C:Cx) (w:World):Cx:={ C with w:=w }
theorem Dw {w w':World} (h:Below w.heap.size w w') {b:Nat} {o:Obj} (hb:w.heap[b]?=some o):w'.heap[b]?=some o:=by
 rw [h.block b (Ck.1 hb).1]; exact hb
theorem Le.of_below {C:Cx} {w':World} (h:Below C.w.heap.size C.w w'):Le C (C.at w') :=
 ⟨h.os,h.tape,h.output,h.size,rfl,Ce _,fun _ _ _ m=>m,fun b o v hv _=>by rw [show (C.at w').w=w' from rfl,lD h (G5 hv)]; exact hv,fun b hb _=>h.block b hb,
  fun b cs t fz hb=>⟨cs,Dw h hb,rfl⟩,fun _ e' he _=>⟨e',he,rfl,rfl⟩,fun _ k hk=>⟨k,hk,Ce _,fun _=>rfl⟩⟩
theorem SR.of_below [Globs] {C:Cx} {w':World} (hs:SR C) (h:Below C.w.heap.size C.w w'):SR (C.at w'):=by
 have hle:=Le.of_below h;refine ⟨fun id e he=>?_,hs.ne,hs.tok,hs.apart,hs.own,fun b o ha=>F1 (hs.avlt b o ha) h.size,fun i o hi h1 h2=>F1 (hs.tlt i o hi h1 h2) h.size,Rp hs hle⟩;obtain ⟨h1,cs,t,h2,vs,r,h3,h4⟩:=hs.ent id e he;exact ⟨h1,cs,t,Dw h h2,vs,r,h3,VRs.mono hle _ _ h4⟩
def Gives (P:Program) (C:Cx) (ρ:Operand->Value) (o:Oper) (av:AV):Prop:=∃ v w',(execOp ρ o).run P C.w=.ok (.value v) w'/\Below C.w.heap.size C.w w'/\VR (C.at w') av v
theorem Gives.of_has {C:Cx} {ρ:Operand->Value} {o:Oper} {av:AV} {s:Sem Value} (h:Has P C s av) (he:execOp ρ o=(do pure (.value (<- s)))):Gives P C ρ o av:=by
 obtain ⟨v,h1,h2⟩:=h;exact ⟨v,C.w,by rw [he]; simp [h1],Fp _ _,h2⟩
theorem Li {t:TypeId} {z:List AV} {w:World} (h:A3 P t=some z):∃ v:Value,(zeroValue t).run P w=.ok v w/\z=v.cells.toList.map cst1:=by
 simp only [A3,Cd,Io] at h;obtain ⟨v,⟨i,h1,h2⟩,rfl⟩:=h;exact ⟨v,by simp [zeroValue,typeInfo,h1,h2],rfl⟩
theorem Vj {w:World} : ∀ {fs:List Field} {pl:List (Nat × Nat)},Vi P fs=some pl->(fs.mapM (m:=Sem) fun f=>do pure (f.offset,<- lB f.type)).run P w=.ok pl w
 | [],_,h=>by simp only [Vi,A8] at h; subst h; simp
 | f :: fs,_,h=>by
  simp only [Vi] at h;split at h
  ·rename_i s l h1 h2;simp only [A8] at h; subst h;have ih:=Vj (w:=w) h2;rw [List.mapM_cons];simp only [Fw,Gl h1,Fh,I9,ih]
  ·simp at h
theorem Aeb {C:Cx} {ρA:Operand->AV} {ρ:Operand->Value} (hρ:∀ x,VR C (ρA x) (ρ x)) {t:TypeId} {ps:Array (Nat × Operand)} {z:List AV} {pl:List (Nat × Nat)} {av:AV} (hz:A3 P t=some z) (hp:fieldsOf P t=some pl)
  (h:(fillA pl z (ps.toList.map fun (i,x)=>(i,ρA x))).map AV.agg=some av):Has P C (Instr.build t (ps.map fun (i,x)=>(i,ρ x))) av:=by
 simp only [Cd] at h;obtain ⟨ds,h,rfl⟩:=h;obtain ⟨zv,hz1,rfl⟩:=Li (w:=C.w) hz;unfold fieldsOf at hp;split at hp
 ·rename_i fs hu;have hm:=Vj (w:=C.w) hp;obtain ⟨out,h1,h2,-⟩:=Xu (C:=C) (pl:=pl) (place:=fun i=>pl.toArray[i]?) (us:=ps.toList.map fun (i,x)=>(i,ρ x)) (cells:=zv.cells) (fun i=>by simp [Ag]) h (Kc _) (by simp) (by
   intro k i x j u h1 h2;simp only [Cw,Cd] at h1 h2;obtain ⟨⟨a,b⟩,h3,h4⟩:=h1;obtain ⟨⟨a',b'⟩,h5,h6⟩:=h2;rw [h3] at h5;simp only [A8,Cg] at h5 h4 h6;obtain ⟨rfl,rfl⟩:=h5;obtain ⟨rfl,rfl⟩:=h4;obtain ⟨rfl,rfl⟩:=h6;exact ⟨rfl,hρ _⟩)
  refine ⟨.agg out,?_,by simp only [VR]; exact ⟨out,rfl,h2⟩⟩;have e1:(ps.map fun (i,x)=>(i,ρ x)).toList=ps.toList.map fun (i,x)=>(i,ρ x):=by simp
  have e2:(fs.mapM (m:=Sem) fun f=>do pure (f.offset,<- lB f.type)).run P C.w=.ok pl.toArray C.w:=by
   rw [Array.mapM_eq_mapM_toList,Sem.run_map,hm]; rfl
  simp only [Instr.build,Fw,hz1,Fh,Bv hu,e2,e1,h1,I9]
 ·simp at hp
theorem SR.fresh [Globs] {C:Cx} (hs:SR C) {b o:Nat} (hb:C.w.heap.size<=b):¬ C.Avoid b o:=by
 rintro (h|⟨id,hid,h⟩|⟨id,hid,h1,h2,h3⟩)
 ·have:=hs.avlt b o h; omega
 ·obtain ⟨e,he⟩:∃ e,nth C.S id=some e:=⟨C.S[id],by rw [Ag]; exact Iw hid⟩;obtain ⟨-,cs,t,h2,-⟩:=hs.ent id e he;have:=(Ck.1 h2).1;omega
 ·have:=hs.tlt id o hid h2 h3;omega
theorem Wi:∀ {e vs r:List AV},vs.length=e.length->puts (e++r) 0 vs=vs++r
 | [],[],_,_=>rfl
 | e :: es,v :: vs,r,h=>by
  simp only [Cn,puts,put];rw [Mt,Wi aM]
 | [],_ :: _,_,h=>aN
 | _ :: _,[],_,h=>aN
theorem Adb:∀ {e r vs:List AV} {k:Nat},puts (e++r) (e.length+k) vs=e++puts r k vs
 | [],r,vs,k=>by simp
 | e :: es,r,vs,k=>by
  simp only [Cn,Ch];rw [show es.length+1+k=es.length+k+1 from by omega,Mt,Adb]
theorem Vo {sz:Nat} : ∀ {es:List (List AV)} {i:Nat} {vs:List AV},(∀ e ∈ es,e.length=sz)->i<es.length->vs.length=sz->(put es i vs).flatten=puts es.flatten (i*sz) vs
 | e :: es,0,vs,h,_,hv=>by
  simp only [put,F3,Ov];rw [Wi (by rw [hv,h e (by simp)])]
 | e :: es,i+1,vs,h,hi,hv=>by
  simp only [put,F3];rw [Vo (fun x hx=>h x bM) (by simpa using hi) hv];rw [show (i+1)*sz=e.length+i*sz from by rw [h e (by simp),Oa]; omega,Adb]
 | [],_,_,_,hi,_=>by simp at hi
theorem Jc {α:Type} : ∀ {l:List α} {i:Nat} {v x:α},x ∈ put l i v->x=v\/x ∈ l
 | _ :: _,0,_,_,h=>by simp only [put,Cv] at h ⊢; rcases h with h|h <;> simp [h]
 | y :: l,i+1,v,x,h=>by
  simp only [put,Cv] at h ⊢;rcases h with h|h
  ·simp [h]
  ·rcases Jc h with h|h <;> simp [h]
 | [],_,_,_,h=>by simp [put] at h
theorem Ai {α:Type} : ∀ {l:List α} {i:Nat} {v:α},(put l i v).length=l.length
 | [],_,_=>rfl
 | _ :: _,0,_=>rfl
 | _ :: l,i+1,v=>by simp [put,Ai]
theorem Q2:∀ {vs cs:List AV} {o:Nat},(puts cs o vs).length=cs.length
 | [],_,_=>rfl
 | v :: vs,cs,o=>by simp only [puts]; rw [Q2,Ai]
theorem Aav {w:World} {A:Nat->Nat->Prop} : ∀ {e r:List AV} {l:List Value},PRs w A (e++r) l->PRs w A e (l.take e.length)/\PRs w A r (l.drop e.length)
 | [],r,l,h=>⟨by simp [PRs],aM⟩
 | c :: e,r,[],h=>by simp [PRs] at h
 | c :: e,r,v :: l,h=>by
  simp only [Cn,PRs] at h;obtain ⟨h1,h2⟩:=Aav h.2;exact ⟨by simp only [Ch,F7,PRs]; exact ⟨h.1,h1⟩,cA⟩
theorem Js {w:World} {A:Nat->Nat->Prop} : ∀ {e r:List AV} {l m:List Value},PRs w A e l->PRs w A r m->PRs w A (e++r) (l++m)
 | [],_,[],_,_,h=>h
 | _ :: _,_,_ :: _,_,h,h'=>by simp only [Cn,PRs] at h ⊢; exact ⟨h.1,Js h.2 h'⟩
 | [],_,_ :: _,_,h,_=>bL
 | _ :: _,_,[],_,h,_=>bL
theorem Lz {w':World} {A:Nat->Nat->Prop} {b:Nat} : ∀ {l:List Value} {o:Nat},(∀ j v,l[j]?=some v->w'.cell? ⟨b,o+j,none⟩=some v/\¬ A b (o+j))->Lie w' A b o l
 | [],_,_=>trivial
 | v :: l,o,h=>⟨by simpa using (h 0 v rfl).1,by simpa using (h 0 v rfl).2,Lz fun j u hu=>by
   have:=h (j+1) u eG;rwa [show o+(j+1)=o+1+j from by omega] at this⟩
theorem Ly {w':World} {A:Nat->Nat->Prop} {b:Nat} : ∀ {l:List Value} {o:Nat},Lie w' A b o l->∀ (j:Nat) (v:Value),l[j]?=some v->w'.cell? ⟨b,o+j,none⟩=some v/\¬ A b (o+j)
 | _ :: _,_,h,0,_,e=>by simp at e; subst e; exact ⟨h.1,h.2.1⟩
 | _ :: l,o,h,j+1,v,e=>by
  have:=Ly h.2.2 j v (by simpa using e);rwa [show o+1+j=o+(j+1) from by omega] at this
 | [],_,_,_,_,e=>by simp at e
theorem He {w':World} {A:Nat->Nat->Prop} {b sz:Nat} : ∀ {es:List (List AV)} {o:Nat} {l:List Value},(∀ e ∈ es,e.length=sz)->PRs w' A es.flatten l->Lie w' A b o l->Da w' A b sz o es
 | [],_,_,_,_,_=>by simp only [Da]
 | e :: es,o,l,hl,h,a1q=>by
  simp only [Da];simp only [F3] at h;obtain ⟨h1,h2⟩:=Aav h;have he:=hl e (by simp);refine ⟨he,⟨_,?_,h1⟩,He (fun x hx=>hl x bM) h2 ?_⟩
  ·exact Lz fun j v hj=>Ly a1q j v (by
    rw [Od] at hj;split at hj
    ·exact hj
    ·simp at hj)
  ·rw [<- he]; exact T1 _ a1q
theorem Hs {w':World} {A:Nat->Nat->Prop} {b sz:Nat} : ∀ {es:List (List AV)} {o:Nat},Da w' A b sz o es->∃ l,l.length=es.length*sz/\PRs w' A es.flatten l/\Lie w' A b o l
 | [],_,_=>⟨[],by simp,by simp [PRs],trivial⟩
 | e :: es,o,h=>by
  simp only [Da] at h;obtain ⟨h1,⟨vs,hl,hp⟩,h3⟩:=h;obtain ⟨l,g1,g2,g3⟩:=Hs h3;have hv:vs.length=sz:=by rw [<- M6 hp,h1]
  refine ⟨vs++l,by simp only [Cm,Ch,Oa]; omega,by simp only [F3]; exact Js hp g2,?_⟩;refine Lz fun j v hj=>?_;rw [List.getElem?_append] at hj;split at hj
  ·exact Ly hl j v hj
  ·rename_i hn;have:=Ly g3 _ v hj;rwa [show o+sz+(j - vs.length)=o+j from by omega] at this
theorem Aj2 {w':World} {A:Nat->Nat->Prop} {b sz:Nat} {out:Array Value} {t:TypeId} {fz:Nat × Nat} (hb:w'.heap[b]?=some (.cells out t fz)) (hA:∀ o,¬ A b o) {es:List (List AV)} {l r:List Value} (hl:∀ e ∈ es,e.length=sz) (h:PRs w' A es.flatten l) (cl:out.toList=l++r):Da w' A b sz 0 es :=
 He hl h (Lz fun j v hj=>⟨by
  have i7:out.toList[j]?=some v:=by rw [cl,C3 (Fx.1 hj).1]; exact hj
  have:out[j]?=some v:=by simpa using i7
  simp [N5,hb,this],hA _⟩)
theorem Th {C:Cx} {sz:Nat} : ∀ {ps:List (Nat × AV)} {us:List (Nat × Value)} {es es':List (List AV)} {cells:Array Value},elemsA sz es ps=some es'->(∀ e ∈ es,e.length=sz)->es.flatten.all pure1=true->VRs C es.flatten cells.toList ->
  ps.length=us.length->(∀ (k i:Nat) (x:AV) (j:Nat) (u:Value),ps[k]?=some (i,x)->us[k]?=some (j,u)->i=j/\VR C x u) ->
  ∃ out,Q7 (fun i=>some (i*sz,sz)) cells us=some out/\VRs C es'.flatten out.toList/\(∀ e ∈ es',e.length=sz)/\es'.flatten.all pure1=true/\es'.length=es.length
 | [],[],es,es',cells,h,hl,hp,hc,_,_=>by simp only [elemsA,A8] at h; subst h; exact ⟨cells,rfl,hc,hl,hp,rfl⟩
 | (i,x) :: ps,(j,u) :: us,es,es',cells,h,hl,hp,hc,hlen,d8=>by
  simp only [elemsA] at h;split at h
  ·rename_i vs j1;split at h
   ·rename_i hh;obtain ⟨h1,h2,h3⟩:=hh;obtain ⟨rfl,hxu⟩:=d8 0 i x j u rfl rfl;have hv:=Hg j1 (Asw hxu);have e1:u.cells.size=sz:=by have:=Bc hv; simp at this; omega
    have hfl:es.flatten.length=es.length*sz:=by
     clear h d8 hc hp h3 hlen;induction es with
     | nil=>simp
     | cons e es ih=>simp only [F3,Cm,Ch]; rw [ih (fun x hx=>hl x bM),hl e (by simp),Oa]; omega
    have e2:i*sz+sz<=cells.size:=by
     have:=Bc hc;simp only [I4] at this;have h4:(i+1)*sz<=es.length*sz:=F2 _ h3;rw [Oa] at h4;omega
    have hf:=Vo hl h3 h1;have jg:VRs C (put es i vs).flatten (u.cells.zipIdx.foldl (fun cs (x:Value × Nat)=>cs.setIfInBounds (i*sz+x.2) x.1) cells).toList:=by
     rw [<- kR,kO,Uk (i*sz) u.cells.toList 0 cells,hf];exact Nb hc hv
    have fv:(put es i vs).flatten.all pure1=true:=by
     rw [Fb] at hp h2 ⊢;intro c hc;rw [iG] at hc;obtain ⟨e,he,hce⟩:=hc;rcases Jc he with rfl|he
     ·exact h2 c hce
     ·exact hp c (iG.2 ⟨e,he,hce⟩)
    have tp:∀ e ∈ put es i vs,e.length=sz:=by
     intro e he;rcases Jc he with rfl|he
     ·exact h1
     ·exact hl e he
    obtain ⟨out,k1,k2,k3,k4,k5⟩:=Th h tp fv jg (by simpa using hlen) (fun k i' x' j' u' a b=>d8 (k+1) i' x' j' u' (by simpa using a) (by simpa using b));refine ⟨out,?_,k2,k3,k4,by rw [k5,Ai]⟩;have:Q7 (fun i=>some (i*sz,sz)) cells ((i,u) :: us)=Q7 (fun i=>some (i*sz,sz)) (u.cells.zipIdx.foldl (fun cs (x:Value × Nat)=>cs.setIfInBounds (i*sz+x.2) x.1) cells) us:=by
     simp [Q7,e1];omega
    rw [this]; exact k1
   ·simp at h
  ·simp at h
 | [],_ :: _,_,_,_,_,_,_,_,hl,_=>by simp at hl
 | _ :: _,[],_,_,_,_,_,_,_,hl,_=>by simp at hl
theorem Wk (l:List Value) (s:Nat) (hs:l.length=s) (h0:0<s):∀ n,(Cz (n*s)).map (fun i=>l[i % s]!)=(Cf n l).flatten
 | 0=>by simp
 | n+1=>by
  have ih:=Wk l s hs h0 n;rw [kB,List.flatten_append,<- ih];rw [Oa,List.range_add,F4];congr 1;simp only [jE,F3,List.flatten_nil,Fy];apply List.ext_getElem
  ·simp [hs]
  ·intro i h1 h2;simp only [List.getElem_map,List.getElem_range,Function.comp];have hi:i<s:=aU
   rw [Nat.mul_add_mod_self_right,Po hi];simp [h2]
theorem Jt (w:World) (e:TypeId) (cells:Array Value):(newRow e cells).run P w=.ok ⟨w.heap.size,0,none⟩ (w.alloc (.cells cells e)):=rfl
theorem A0 (w:World) (o:Obj):(w.alloc o).heap[w.heap.size]?=some o:=by
 show (w.heap.push o)[w.heap.size]?=some o;simp
theorem Ts [Globs] {C:Cx} (hs:SR C) {ρA:Operand->AV} {ρ:Operand->Value} (hρ:∀ x,VR C (ρA x) (ρ x)) {t e:TypeId} {len sz:Nat} {ps:Array (Nat × Operand)} {z:List AV} {es:List (List AV)} (he:Be P t=some e) (hsz:szOf P e=some (sz+1)) (hz:A3 P e=some z)
  (hzl:z.length=sz+1) (hzp:(z.all fun c=>pure1 (w1 c))=true) (cz:len*(sz+1)<=4096) (h:elemsA (sz+1) (Cf len (z.map w1)) (ps.toList.map fun (i,x)=>(i,ρA x))=some es) :
  ∃ v w',(jU t len (ps.map fun (i,x)=>(i,ρ x))).run P C.w=.ok v w'/\Below C.w.heap.size C.w w'/\VR (C.at w') (.frz es .tight) v:=by
 obtain ⟨zv,hz1,rfl⟩:=Li (w:=C.w) hz;have yb:zv.cells.size=sz+1:=by simpa using hzl
 have hz0:VRs C (Cf len ((zv.cells.toList.map cst1).map w1)).flatten (Cf len zv.cells.toList).flatten:=by
  clear h cz;induction len with
  | zero=>simp [VRs]
  | succ n ih=>simp only [Om,F3]; exact Ht (Xo (Kc _)) ih
 have hcells:((Xe (len*(sz+1))).map fun i=>zv.cells[i % zv.cells.size]!).toList=(Cf len zv.cells.toList).flatten:=by
  rw [<- Wk zv.cells.toList (sz+1) (by simpa using yb) aA len];simp [yb,Array.toList_range];intro a _; rw [getElem!_def]; cases zv.cells[a % (sz+1)]? <;> rfl
 obtain ⟨out,h1,h2,h3,h4,h5⟩:=Th (C:=C) (us:=ps.toList.map fun (i,x)=>(i,ρ x)) (cells:=(Xe (len*(sz+1))).map fun i=>zv.cells[i % zv.cells.size]!) h (by
   intro e he; rw [Ix] at he; rw [he.2]; simpa using hzl) (by
   rw [Fb] at hzp ⊢;intro c hc;rw [iG] at hc;obtain ⟨l,hl,hc⟩:=hc;rw [Ix] at hl;rw [hl.2,Ft] at hc;obtain ⟨c',jg,rfl⟩:=hc;exact hzp c' jg) (by rw [hcells]; exact hz0) (by simp) (by
   intro k i x j u h1 h2;simp only [Cw,Cd] at h1 h2;obtain ⟨⟨a,b⟩,h3,h4⟩:=h1;obtain ⟨⟨a',b'⟩,h5,h6⟩:=h2;rw [h3] at h5;simp only [A8,Cg] at h5 h4 h6;obtain ⟨rfl,rfl⟩:=h5;obtain ⟨rfl,rfl⟩:=h4;obtain ⟨rfl,rfl⟩:=h6;exact ⟨rfl,hρ _⟩)
 have hb:Below C.w.heap.size C.w (C.w.alloc (.cells out e)):=(Fp _ _).alloc (Ce _) _;refine ⟨.slice (some ⟨C.w.heap.size,0,none⟩) len len,C.w.alloc (.cells out e),?_,hb,?_⟩
 ·have e1:(ps.map fun (i,x)=>(i,ρ x)).toList=ps.toList.map fun (i,x)=>(i,ρ x):=by simp
  have vp:¬ (len*(sz+1) > 2 ^ 24):=aA
  simp only [jU,Fw,Bv (Eb he),Gl hsz,Fh,Sem.run_ite];rw [if_neg vp];by_cases hl:len*(sz+1)=0
  ·rw [if_pos hl];have c8:len=0:=by
    rcases Nat.mul_eq_zero.1 hl with h|h
    ·exact h
    ·omega
   subst c8;have e0:∀ (f:Nat->Value),(Xe (0*(sz+1))).map f=#[]:=fun f=>by simp
   rw [e0] at h1;simp only [I9,Fh,e1,e0,h1,Fw,Jt]
  ·rw [if_neg hl];simp only [hz1,Fh,e1,h1,Fw,I9,Jt]
 ·simp only [VR];refine ⟨_,len,len,rfl,by simpa using h5,Ce _,rfl,?_⟩;by_cases hes:es=[]
  ·exact .inl hes
  ·right;refine ⟨C.w.heap.size,0,sz+1,rfl,?_⟩;have a2h:∀ o,¬ (C.at (C.w.alloc (.cells out e))).Avoid C.w.heap.size o:=fun o=>hs.fresh (Ce _);have h6:=VRs.mono (Le.of_below hb) _ _ h2;exact Aj2 (out:=out) (t:=e) (fz:=(0,0)) (r:=[]) (A0 _ _) a2h h3 (Kw h4 h6) (by simp)
theorem Am6:∀ {vs cs:List AV},cs.length=vs.length->over cs 0 vs=some vs
 | [],[],_=>rfl
 | v :: vs,c :: cs,h=>by simp only [over,Am6 (vs:=vs) (cs:=cs) aM,C8]
 | [],_ :: _,h=>aN
 | _ :: _,[],h=>aN
theorem Y6 {C:Cx} : ∀ vs:List Value,VRs C (Cf vs.length AV.bot) vs
 | []=>by simp [VRs]
 | _ :: vs=>by simp only [Ch,Om,VRs,VR]; exact ⟨trivial,Y6 vs⟩
theorem Ai2 [Globs] {C:Cx} (hs:SR C) {ρA:Operand->AV} {ρ:Operand->Value} (hρ:∀ x,VR C (ρA x) (ρ x)) {t e:TypeId} {len sz:Nat} {ps:Array (Nat × Operand)} {z:List AV} {av:AV} (he:Be P t=some e) (hsz:szOf P e=some (sz+1)) (hz:A3 P e=some z)
  (hzl:z.length=sz+1) (cz:len*(sz+1)<=4096) (h:lit1 (sz+1) len (ps.toList.map fun (i,x)=>(i,ρA x))=some av) :
  ∃ v w',(jU t len (ps.map fun (i,x)=>(i,ρ x))).run P C.w=.ok v w'/\Below C.w.heap.size C.w w'/\VR (C.at w') av v:=by
 obtain ⟨zv,hz1,rfl⟩:=Li (w:=C.w) hz;have yb:zv.cells.size=sz+1:=by simpa using hzl
 unfold lit1 at h;split at h
 ·rename_i x tq;split at h
  ·rename_i vs j1;split at h
   ·rename_i hh;simp only [A8] at h; subst h;obtain ⟨y,hy,j8⟩:∃ y,ps.toList=[(0,y)]/\ρA y=x:=by
     match hl:ps.toList with
     | [(i,y)] =>
      rw [hl] at tq;simp only [Ct,Ei,kH,Cg,and_true] at tq;obtain ⟨rfl,h2⟩:=tq;exact ⟨y,rfl,h2⟩
     | []=>rw [hl] at tq; simp at tq
     | _ :: _ :: _=>rw [hl] at tq; simp at tq
    subst j8;have hv:=Hg j1 (hρ y);have yc:=Bc hv;have e1:(ρ y).cells.size=sz+1:=by simp at yc; omega
    obtain ⟨cells,hcd⟩:∃ cells,cells=(Xe (1*(sz+1))).map fun i=>zv.cells[i % zv.cells.size]!:=⟨_,rfl⟩;have a47:cells.size=sz+1:=by rw [hcd]; simp
    have ky:over (Cf cells.toList.length AV.bot) 0 vs=some vs:=Am6 aD;obtain ⟨h1,h2⟩:=La ky;obtain ⟨out,rp⟩:∃ out,out=((ρ y).cells.zipIdx.foldl (fun cs (x:Value × Nat)=>cs.setIfInBounds (0*(sz+1)+x.2) x.1) cells):=⟨_,rfl⟩;have cl:VRs C vs out.toList:=by
     rw [rp,<- kR,kO,Uk (0*(sz+1)) (ρ y).cells.toList 0 cells,h1];simp only [Ov];exact Nb (Y6 _) hv
    have a36:Q7 (fun i=>some (i*(sz+1),sz+1)) cells [(0,ρ y)]=some out:=by
     have:Q7 (fun i=>some (i*(sz+1),sz+1)) cells [(0,ρ y)]=Q7 (fun i=>some (i*(sz+1),sz+1)) ((ρ y).cells.zipIdx.foldl (fun cs (x:Value × Nat)=>cs.setIfInBounds (0*(sz+1)+x.2) x.1) cells) []:=by
      simp [Q7,e1,a47]
     rw [this,<- rp]; rfl
    have hb:Below C.w.heap.size C.w (C.w.alloc (.cells out e)):=(Fp _ _).alloc (Ce _) _;refine ⟨.slice (some ⟨C.w.heap.size,0,none⟩) 1 1,C.w.alloc (.cells out e),?_,hb,?_⟩
    ·have e2:(ps.map fun (i,x)=>(i,ρ x)).toList=[(0,ρ y)]:=by simp [hy]
     have vp:¬ (1*(sz+1) > 2 ^ 24):=aA
     simp only [jU,Fw,Bv (Eb he),Gl hsz,Fh,Sem.run_ite];rw [if_neg vp,if_neg aA];simp only [hz1,Fh,e2,<- hcd,a36,Fw,I9,Jt]
    ·simp only [VR];refine ⟨C.w.heap.size,out.toList,rfl,Lz fun j v hj=>⟨?_,hs.fresh (Ce _)⟩,VRs.mono (Le.of_below hb) _ _ cl⟩;show (C.w.alloc (.cells out e)).cell? _=_;simp only [El,N5,A0];simpa using hj
   ·simp at h
  ·simp at h
 ·simp at h
theorem Acz {t:TypeId} {m:String} {f:FuncId} (h:mRow P t m=some f):∃ i r p,P.info? t=some i/\i.methods.find? (·.name == m)=some r/\r.path=#[]/\r.func=some (f,p)/\((p=true/\∃ e,P.underlying t=some (.pointer e))\/(p=false/\∃ fs,P.underlying t=some (.struct fs))):=by
 unfold mRow at h;split at h
 ·rename_i r hr;simp only [Io] at hr;obtain ⟨i,h1,h2⟩:=hr;split at h
  ·rename_i hp;have fv:r.path=#[]:=by simpa using hp
   split at h
   ·rename_i f' e h3 h4;simp only [A8] at h; subst h;exact ⟨i,r,true,h1,h2,fv,h3,.inl ⟨rfl,e,h4⟩⟩
   ·rename_i f' fs h3 h4;simp only [A8] at h; subst h;exact ⟨i,r,false,h1,h2,fv,h3,.inr ⟨rfl,fs,h4⟩⟩
   ·simp at h
  ·simp at h
 ·simp at h
theorem W9 {w:World} {t:TypeId} {m:String} {u:Value} (h:(mRow P t m).isSome=true):(nilAhead (P.types.size+iX) t u m).run P w=.ok (some false) w:=by
 obtain ⟨f,hf⟩:=Ss.1 h;obtain ⟨i,r,p,h1,h2,h3,h4,h5⟩:=Acz hf;have hd:P.types.size+iX=(P.types.size+iX - 1)+1:=by
   have:0<iX:=aO
   omega
 rw [hd];rcases h5 with ⟨rfl,e,h5⟩|⟨rfl,fs,h5⟩
 ·simp [nilAhead,typeInfo,h1,h2,h3,h4,followBlind]
 ·simp [nilAhead,typeInfo,h1,h2,h3,h4,followBlind,Bv h5]
theorem Ai8 {w:World} {t:TypeId} {m:String} {f:FuncId} {u:Value} (h:mRow P t m=some f):(method (P.types.size+iX) t u m).run P w=.ok (f,u) w:=by
 obtain ⟨i,r,p,h1,h2,h3,h4,h5⟩:=Acz h;have hd:P.types.size+iX=(P.types.size+iX - 1)+1:=by
   have:0<iX:=aO
   omega
 rw [hd];rcases h5 with ⟨rfl,e,h5⟩|⟨rfl,fs,h5⟩
 ·exact Ya3t
 ·exact Ya3t
theorem X3 {C:Cx} {x:AV} {v:Value} {n:Nat} (hx:VR C x v) (h:lenA x=some n):∃ a cap,v=.slice a n cap:=by
 unfold lenA at h;split at h
 ·simp only [A8] at h; subst h;simp only [VR] at hx;obtain ⟨a,len,cap,rfl,e,-⟩:=hx;exact ⟨a,cap,by rw [e]⟩
 ·simp only [A8] at h; subst h;simp only [VR] at hx;obtain ⟨b,a,cap,rfl,-⟩:=hx;exact ⟨a,cap,rfl⟩
 ·simp at h
theorem M9 {C:Cx} {ρA:Operand->AV} {ρ:Operand->Value} (hρ:∀ x,VR C (ρA x) (ρ x)):∀ l:List Operand,VRs C (l.map ρA) (l.map ρ)
 | []=>dU
 | x :: l=>by simp only [Ct,VRs]; exact ⟨hρ x,M9 hρ l⟩
theorem Aet {t:TypeId} (h:Vt P t=true):∃ e,P.underlying t=some (.slice e)/\P.underlying e=some (.int .u8):=by
 unfold Vt at h;cases he:Be P t with
 | none=>rw [he] at h; simp at h
 | some e =>
  rw [he] at h;simp only [Ou] at h;cases hk:K6 P e with
  | none=>rw [hk] at h; simp at h
  | some k =>
   rw [hk] at h;cases k <;> simp at h;exact ⟨e,Eb he,Rq hk⟩
theorem Alh [Globs] {C:Cx} (hs:SR C) {ρ:Operand->Value} {o:Oper} {s d:TypeId} {x:Operand} {ax av:AV} (hx:VR C ax (ρ x)) (e:o.op=.convert s d x) (h:cvA P s d ax=some av):Gives P C ρ o av:=by
 unfold cvA at h;split at h
 ·rename_i b;split at h
  ·rename_i hh;simp only [Ci,decide_eq_true_eq] at hh;obtain ⟨⟨h1,h2⟩,h3⟩:=hh;simp only [A8] at h; subst h;obtain ⟨el,g1,g2⟩:=Aet h2;simp only [VR] at hx;have hb:Below C.w.heap.size C.w (Lib.bytesWorld C.w el b):=Lib.bytesWorld_below C.w el b;refine ⟨.slice (some ⟨C.w.heap.size,0,none⟩) b.size (grownCap C.w b.size 0 el),Lib.bytesWorld C.w el b,?_,hb,?_⟩
   ·simp only [execOp,e,hx,Fw,Lib.run_convert_string_bytes C.w s d el b (Jw h1) g1 g2,Fh,I9]
   ·have hg:=grownCap_ge C.w b.size 0 el;simp only [VR];refine ⟨_,b.size,_,rfl,by simp [bytesL],hg,trivial,.inr ⟨C.w.heap.size,0,1,rfl,?_⟩⟩;have r9:∀ (A:Nat->Nat->Prop) (w:World) (l:List UInt8),PRs w A (l.map fun x=>([.prim (.int .u8 x.toNat)]:List AV)).flatten (l.map fun x=>jV .u8 (x.toNat:Int)):=by
     intro A w l;induction l with
     | nil=>simp [PRs]
     | cons x l ih=>simp only [Ct,F3,Cn,Cq,PRs]; exact ⟨by simp [PR,jF],ih⟩
    refine He (l:=b.data.toList.map fun x=>jV .u8 (x.toNat:Int)) (fun q hq=>?_) (r9 _ _ _) (Lz fun j v hj=>⟨?_,hs.fresh (Ce _)⟩)
    ·unfold bytesL at hq;rw [Ft] at hq;obtain ⟨x,-,rfl⟩:=hq;rfl
    ·have i7:j<b.size:=by
      have:=(Fx.1 hj).1;rw [Fj,I4] at this;exact this
     rw [El];show (Lib.bytesWorld C.w el b).cell? _=_;rw [Lib.bytesWorld_cell C.w el b j i7,<- hj];simp only [Cw,List.getD];have:j<b.data.toList.length:=by rw [I4]; exact i7
     rw [Iw this];rfl
  ·exact .of_has (Uw hx h) bE
 ·exact .of_has (Uw hx h) bE
theorem Ads {C:Cx} {x y:AV} {l:List Value} (h:VRs C [x,y] l):∃ u v,l=[u,v]:=by
 match l,h with
 | [u,v],_=>exact ⟨u,v,rfl⟩
 | [],h=>simp only [VRs] at h
 | [_],h=>simp only [VRs,and_false] at h
 | _ :: _ :: _ :: _,h=>simp only [VRs,and_false] at h
theorem Alr [Globs] {C:Cx} (hs:SR C) {ρA:Operand->AV} {ρ:Operand->Value} (hρ:∀ x,VR C (ρA x) (ρ x)) {o:Oper} {av:AV} (h:evQ P o ρA=some av):Gives P C ρ o av:=by
 unfold evQ at h;split at h;case h_1 x e=>simp only [A8] at h; subst h; exact .of_has (s:=pure (ρ x)) ⟨_,rfl,hρ x⟩ (by simp [execOp,e])
 case h_2 x e=>simp only [A8] at h; subst h; exact .of_has (s:=pure (ρ x)) ⟨_,rfl,hρ x⟩ (by simp [execOp,e])
 case h_3 c a b e =>
  split at h
  ·rename_i t hc
   simp only [A8] at h; subst h
   have hv:=hρ c
   rw [hc] at hv; simp only [VR] at hv
   refine ⟨if t then ρ a else ρ b,C.w,by simp [execOp,e,hv,asBool],Fp _ _,?_⟩
   cases t
   ·exact hρ b
   ·exact hρ a
  ·simp at h
 case h_4 b t x y e' e=>exact .of_has (Ail (ox:=x) (oy:=y) (hρ x) (hρ y) h) bE
 case h_5 u t x e=>exact .of_has (Akk (hρ x) h) bE
 case h_6 s d x e=>exact Alh hs (hρ x) e h
 case h_7 t i e =>
  split at h
  ·rename_i vs hc
   have hv:=hρ t
   rw [hc] at hv; simp only [VR] at hv
   obtain ⟨us,e2,hv⟩:=hv
   obtain ⟨v,h1,h2⟩:=Xn hv h
   exact .of_has (s:=Instr.extract (ρ t) i) ⟨v,by rw [e2]; simp at h1; simp [Instr.extract,h1],h2⟩ bE
  ·simp at h
 case h_8 t x k e =>
  split at h
  ·rename_i off sz b cs hf hc
   obtain ⟨fs,f,hu,hfk,h1,h2,h3,h4⟩:=Pb hf
   have hv:=hρ x
   rw [hc] at hv; simp only [VR] at hv
   obtain ⟨us,e2,hv⟩:=hv
   obtain ⟨v,g1,g2⟩:=Ajd h2 h3 hv h
   exact .of_has (s:=Instr.field t (ρ x) k) ⟨v,by rw [e2]; simp [Instr.field,Bv hu,hfk,asAgg,h1,g1],g2⟩ bE
  ·simp at h
 case h_9 t x i e=>exact .of_has (Aiw (hρ x) (hρ i) h) bE
 case h_10 t x k e=>exact .of_has (Aiu (hρ x) h) bE
 case h_11 t x i e =>
  split at h
  ·rename_i s k hc hk
   split at h
   ·rename_i ht
    simp only [Cd] at h
    obtain ⟨b,hb,rfl⟩:=h
    have hv:=hρ x
    rw [hc] at hv; simp only [VR] at hv
    obtain ⟨ki,qq⟩:=E7 hk (hρ i)
    refine .of_has (s:=Instr.index t (ρ x) (ρ i)) (.mk ?_) bE
    rw [hv,qq]
    simp [Instr.index,asIntOf,Bv (Jw ht),hb]
   ·simp at h
  ·simp at h
 case h_12 t ps e =>
  split at h
  ·rename_i z pl hz hp
   exact .of_has (Aeb hρ hz hp h) bE
  ·simp at h
 case h_13 t len ps e =>
  split at h
  ·rename_i el he
   split at h
   ·rename_i sz z hsz hz
    split at h
    ·rename_i hh
     obtain ⟨h1,h2,h3⟩:=hh
     unfold Ajc at h
     split at h
     ·rename_i es hes
      simp only [A8] at h; subst h
      obtain ⟨v,w',g1,g2,g3⟩:=Ts hs hρ he hsz hz h1 h2 h3 hes
      exact ⟨v,w',Za1p,g2,g3⟩
     ·obtain ⟨v,w',g1,g2,g3⟩:=Ai2 hs hρ he hsz hz h1 h3 h
      exact ⟨v,w',Za1p,g2,g3⟩
    ·simp at h
   ·simp at h
  ·simp at h
 case h_14 t x lo hi mx e=>exact .of_has (Adn (hρ x) (Yn hρ lo) (Yn hρ hi) (Yn hρ mx) h) bE
 case h_15 f first caps e =>
  split at h
  ·rename_i hh
   simp only [A8] at h; subst h
   have hf:first=#[]:=by simpa using hh.1
   refine .of_has (s:=Ya (.func f) (first.map ρ) (caps.map ρ)) ⟨.func (.func f) #[] (caps.map ρ),by simp [Ya,hf],?_⟩ bE
   simp only [VR]
   exact ⟨_,rfl,Za4y⟩
  ·split at h
   ·rename_i hh
    simp only [A8] at h; subst h
    have hf:caps=#[]:=by simpa using hh
    refine .of_has (s:=Ya (.func f) (first.map ρ) (caps.map ρ)) ⟨.func (.func f) (first.map ρ) #[],by simp [Ya,hf],?_⟩ bE
    simp only [VR]
    exact ⟨_,rfl,Za4y⟩
   ·simp at h
 case h_16 c e =>
  split at h
  ·rename_i hb
   have ab:=M9 hρ c.args.toList
   split at h
   ·rename_i s t hc ht
    split at h
    ·rename_i aj
     simp only [A8] at h; subst h
     rw [hc] at ab
     obtain ⟨u,hu⟩:∃ u,c.args.toList.map ρ=[u]:=by
      exact Ya3q
     rw [hu] at ab
     simp only [VRs,VR,and_true] at ab
     have ha:c.args.map ρ=#[.string s]:=by rw [<- iH]; simp [hu,ab]
     refine ⟨.int .i64 s.size,C.w,?_,Fp _ _,bR⟩
     have ht':c.argTypes=#[t]:=dD
     simp [execOp,e,resolve,hb,ha,invoke,builtin,Builtin.len_,ht',Bv (Jw aj),goInt]
    ·simp at h
   ·rename_i x t _ hc ht
    split at h
    ·rename_i aj
     simp only [Cd] at h
     obtain ⟨n,hn,rfl⟩:=h
     rw [hc] at ab
     obtain ⟨u,hu⟩:∃ u,c.args.toList.map ρ=[u]:=by
      exact Ya3q
     rw [hu] at ab
     simp only [VRs,and_true] at ab
     obtain ⟨a,cap,rfl⟩:=X3 ab hn
     have ha:c.args.map ρ=#[.slice a n cap]:=cU
     obtain ⟨el,he⟩:=Ss.1 aj
     refine ⟨.int .i64 n,C.w,?_,Fp _ _,bR⟩
     have ht':c.argTypes=#[t]:=dD
     simp [execOp,e,resolve,hb,ha,invoke,builtin,Builtin.len_,ht',Bv (Eb he),goInt]
    ·simp at h
   ·simp at h
  ·rename_i hb
   have ab:=M9 hρ c.args.toList
   split at h
   ·rename_i x y hc
    rw [hc] at ab
    obtain ⟨u,v,hu⟩:=Ads ab
    rw [hu] at ab
    simp only [VRs,and_true] at ab
    have ha:c.args.map ρ=#[u,v]:=cU
    unfold minA at h
    split at h
    ·split at h
     ·rename_i hk
      subst hk
      simp only [A8] at h; subst h
      simp only [VR] at ab
      obtain ⟨rfl,rfl⟩:=ab
      refine ⟨_,C.w,?_,Fp _ _,by simp only [VR]; rfl⟩
      simp [execOp,e,resolve,hb,ha,invoke,builtin,Builtin.min_,Builtin.min2]
     ·simp at h
    ·simp at h
   ·simp at h
  ·rename_i hb
   have ab:=M9 hρ c.args.toList
   split at h
   ·rename_i x y hc
    rw [hc] at ab
    obtain ⟨u,v,hu⟩:=Ads ab
    rw [hu] at ab
    simp only [VRs,and_true] at ab
    have ha:c.args.map ρ=#[u,v]:=cU
    unfold maxA at h
    split at h
    ·split at h
     ·rename_i hk
      subst hk
      simp only [A8] at h; subst h
      simp only [VR] at ab
      obtain ⟨rfl,rfl⟩:=ab
      refine ⟨_,C.w,?_,Fp _ _,by simp only [VR]; rfl⟩
      simp [execOp,e,resolve,hb,ha,invoke,builtin,Builtin.max_,Builtin.max2]
     ·simp at h
    ·simp at h
   ·simp at h
  ·simp at h
 case h_17 m first caps e =>
  split at h
  ·rename_i x hf hcp
   unfold mthA at h
   split at h
   ·rename_i t v hv
    simp only [A8] at h; subst h
    have hx:=hρ x
    rw [hv] at hx
    simp only [VR] at hx
    obtain ⟨u,hu,hvu⟩:=hx
    have e1:first.map ρ=#[.iface t u]:=by rw [<- iH]; simp [hf,hu]
    have e2:caps.map ρ=#[]:=by rw [<- iH]; simp [hcp]
    refine .of_has (s:=Ya (.method m) (first.map ρ) (caps.map ρ)) ⟨.func (.method m) #[.iface t u] #[],by rw [e1,e2]; simp [Ya],?_⟩ bE
    simp only [VR]
    exact ⟨u,rfl,hvu⟩
   ·simp at h
  ·simp at h
 case h_18 t x e =>
  split at h
  ·simp at h
  ·rename_i hi
   simp only [A8] at h; subst h
   obtain ⟨ut,hut,hni⟩:∃ ut,P.underlying t=some ut/\∀ ms,ut≠.interface ms:=by
    unfold Tv at hi;split at hi
    ·simp at hi
    ·simp at hi
    ·rename_i h1 h2;cases hu:P.underlying t with
     | none=>exact absurd hu h2
     | some ut=>exact ⟨ut,rfl,fun ms hms=>h1 ms (by rw [hu,hms])⟩
   refine .of_has (s:=Instr.makeInterface t (ρ x)) ⟨.iface t (ρ x),?_,?_⟩ bE
   ·simp only [Instr.makeInterface,Fw,Bv hut,Fh]
    cases ut <;> first|rfl|exact absurd rfl (hni _)
   ·simp only [VR]
    exact ⟨_,rfl,hρ x⟩
 case h_19 x e =>
  have hx:=hρ x
  unfold chkM at h
  split at h
  ·rename_i t m v hv
   split at h
   ·rename_i hm
    simp only [A8] at h; subst h
    rw [hv] at hx
    have hx':=hx
    simp only [VR] at hx'
    obtain ⟨u,hb,-⟩:=hx'
    refine ⟨ρ x,C.w,?_,Fp _ _,hx⟩
    have hna:=W9 (P:=P) (w:=C.w) (u:=u) hm
    simp [execOp,e,hb,hna]
   ·simp at h
  unfold chkA at h
  split at h
  ·rename_i id ep off hv
   simp only [A8] at h; subst h
   rw [hv] at hx
   have hx':=hx
   simp only [VR] at hx'
   obtain ⟨b,hb,-⟩:=hx'
   exact ⟨ρ x,C.w,dY,Fp _ _,hx⟩
  ·rename_i cs hv
   simp only [A8] at h; subst h
   rw [hv] at hx
   have hx':=hx
   simp only [VR] at hx'
   obtain ⟨b,o,vs,hb,-⟩:=hx'
   exact ⟨ρ x,C.w,dY,Fp _ _,hx⟩
  ·rename_i f caps hv
   simp only [A8] at h; subst h
   rw [hv] at hx
   have hx':=hx
   simp only [VR] at hx'
   obtain ⟨vs,hb,-⟩:=hx'
   exact ⟨ρ x,C.w,dY,Fp _ _,hx⟩
  ·rename_i f first hv
   simp only [A8] at h; subst h
   rw [hv] at hx
   have hx':=hx
   simp only [VR] at hx'
   obtain ⟨vs,hb,-⟩:=hx'
   exact ⟨ρ x,C.w,dY,Fp _ _,hx⟩
  ·rename_i t v hv
   simp only [A8] at h; subst h
   rw [hv] at hx
   have hx':=hx
   simp only [VR] at hx'
   obtain ⟨u,hb,-⟩:=hx'
   exact ⟨ρ x,C.w,dY,Fp _ _,hx⟩
  ·simp at h
 ·simp at h
end
end
end Go.Proofs.YtcjffhadclngmaaGreat
