/- Part 4. -/
import Derived.Test.YthelkgdmgihhiaaGreatDoorZK3
import Derived.Laws.AppendOwn
import Derived.Laws.OwnMore
import Derived.Laws.CopyRow
import Derived.IntWalk
namespace Go.Proofs.YthelkgdmgihhiaaGreatDoor
section
open Go.RowKit
section
variable {P:Program}
theorem Jv {C:Cx} {t:TypeId} {sz:Nat} {bb:Bool} {b o:Nat} {cs:List AV} {vs:List Value} {av:AV} (hs:szOf P t=some sz) (ha:aggT P t=some bb) (hx:VRs C cs vs) (hl:∀ (j:Nat) (v:Value),vs[j]?=some v->C.w.cell? ⟨b,o+j,none⟩=some v)
  (h:partA bb sz cs=some av):Has P C (loadVar t ⟨b,o,none⟩) av:=by
 unfold partA at h
 cases bb with
 | true =>
  simp only [if_true,Option.map_eq_some_iff] at h
  obtain ⟨ds,h1,rfl⟩:=h
  obtain ⟨h2,h3⟩:=Gg hx h1
  have hl':(vs.take sz).length=sz:=by rw [List.length_take]; omega
  have:=run_loadCells_list (P:=P) C.w ⟨b,o,none⟩ (vs.take sz) (fun j v hj=>by
   rw [A2]
   refine hl j v ?_
   rw [List.getElem?_take] at hj
   split at hj
   ·exact hj
   ·simp at hj)
  rw [hl'] at this
  refine ⟨.agg (vs.take sz).toArray,by simp [loadVar,Jm ha,B5 hs,this],?_⟩
  simp only [VR]
  exact ⟨_,rfl,h2⟩
 | false =>
  simp only [Bool.false_eq_true,if_false] at h
  obtain ⟨v,h1,h2⟩:=Nl hx h
  refine ⟨v,?_,h2⟩
  have:=hl 0 v h1
  simp only [Nat.add_zero] at this
  simp [loadVar,Jm ha,this]
theorem U7 {C:Cx} : ∀ {a b:List AV} {l:List Value},VRs C (a++b) l->∃ l1 l2,l=l1++l2/\VRs C a l1/\VRs C b l2
 | [],b,l,h=>⟨[],l,rfl,by simp only [VRs],h⟩
 | x :: a,b,v :: l,h=>by
  simp only [List.cons_append,VRs] at h
  obtain ⟨l1,l2,rfl,h1,h2⟩:=U7 (a:=a) h.2
  exact ⟨v :: l1,l2,rfl,by simp only [VRs]; exact ⟨h.1,h1⟩,h2⟩
 | _ :: _,_,[],h=>by simp only [List.cons_append,VRs] at h
theorem entP {C:Cx} {cells:List AV} {l:List Value} (h:∃ vs r,l=vs++r/\VRs C cells vs):∃ p,VRs C (cells++p) l:=by
 obtain ⟨vs,r,rfl,h⟩:=h
 exact ⟨_,Dw h (Pp r)⟩
theorem Adr {C:Cx} {cells p:List AV} {l:List Value} (h:VRs C (cells++p) l):∃ vs r,l=vs++r/\VRs C cells vs:=by
 obtain ⟨l1,l2,e,h1,-⟩:=U7 h
 exact ⟨l1,l2,e,h1⟩
theorem Acw (p:List AV):∀ {cs:List AV} {o:Nat} {vs cs':List AV},over cs o vs=some cs'->over (cs++p) o vs=some (cs'++p)
 | cs,0,[],cs',h=>by
  have:cs=cs':=by cases cs <;> simpa [over] using h
  subst this
  cases (cs++p) <;> rfl
 | c :: cs,k+1,vs,cs',h=>by
  simp only [over,Option.map_eq_some_iff] at h
  obtain ⟨x,h,rfl⟩:=h
  simp only [List.cons_append,over,Acw p h,Option.map_some]
 | _ :: cs,0,v :: vs,cs',h=>by
  simp only [over,Option.map_eq_some_iff] at h
  obtain ⟨x,h,rfl⟩:=h
  simp only [List.cons_append,over,Acw p h,Option.map_some]
 | [],0,_ :: _,_,h=>by simp [over] at h
 | [],_+1,_,_,h=>by simp [over] at h
theorem Aay (p:List AV):∀ {n:Nat} {cs x:List AV},takeN n cs=some x->takeN n (cs++p)=some x
 | 0,_,_,h=>by simpa [takeN] using h
 | n+1,[],_,h=>by simp [takeN] at h
 | n+1,c :: cs,x,h=>by
  simp only [takeN,Option.map_eq_some_iff] at h
  obtain ⟨y,h,rfl⟩:=h
  simp only [List.cons_append,takeN,Aay p h,Option.map_some]
theorem Agn (p:List AV) {b:Bool} {n:Nat} {cs:List AV} {x:AV} (h:partA b n cs=some x):partA b n (cs++p)=some x:=by
 unfold partA at h ⊢
 cases b with
 | true =>
  simp only [if_true,Option.map_eq_some_iff] at h ⊢
  obtain ⟨y,h,rfl⟩:=h
  exact ⟨y,Aay p h,rfl⟩
 | false =>
  simp only [Bool.false_eq_true,if_false] at h ⊢
  cases cs with
  | nil=>simp [nth] at h
  | cons c cs=>exact h
theorem Bw {S:List Ent} {id ep:Nat} {cs:List AV} (h:entAt S id ep=some cs):∃ e,nth S id=some e/\e.ep=ep/\e.cells=cs:=by
 unfold entAt at h
 split at h
 ·rename_i e he
  split at h
  ·rename_i de; simp only [Option.some.injEq] at h; exact ⟨e,he,de,h⟩
  ·simp at h
 ·simp at h
theorem Rx [Globs] {C:Cx} (ae:SR C) {t:TypeId} {a av:AV} {va:Value} (hx:VR C a va) (h:ldA P t a C.S=some av):Has P C (Instr.loadAt t va) av:=by
 unfold ldA at h
 split at h
 ·rename_i sz bb hs ha
  split at h
  ·rename_i cs
   simp only [VR] at hx
   obtain ⟨b,o,vs,rfl,hl,hp⟩:=hx
   obtain ⟨v,h1,h2⟩:=Jv (b:=b) (o:=o) hs ha (Ey hp) (fun j v hj=>(Gy hl j v hj).1) h
   exact ⟨v,by simpa [Instr.loadAt,Instr.sureAddr] using h1,h2⟩
  ·rename_i id ep off
   split at h
   ·rename_i cs he
    obtain ⟨e,h1,h2,rfl⟩:=Bw he
    simp only [VR] at hx
    obtain ⟨b,rfl,hn,hb⟩:=hx
    obtain rfl:=hb e h1 h2
    obtain ⟨-,arr,t',h3,h4⟩:=ae.ent id e h1
    obtain ⟨p,h4⟩:=entP h4
    obtain ⟨v,g1,g2⟩:=Jv (b:=C.φ id) (o:=off) hs ha (Hm off h4) (fun j v hj=>by
     rw [List.getElem?_drop] at hj
     simp [World.cell?,h3]; simpa using hj) (by rw [List.drop_append]; exact Agn _ h)
    exact ⟨v,by simpa [Instr.loadAt,Instr.sureAddr] using g1,g2⟩
   ·simp at h
  ·simp at h
 ·simp at h
theorem Bp {α:Type} : ∀ {l:List α} {i:Nat} {v x:α},nth (put l i v) i=some x->x=v
 | _ :: _,0,_,_,h=>by simpa [put,nth] using h.symm
 | _ :: l,i+1,v,x,h=>Bp (l:=l) (i:=i) (by simpa [put,nth] using h)
 | [],_,_,_,h=>by simp [put,nth] at h
theorem Bi {α:Type} : ∀ {l:List α} {i j:Nat} {v:α},i≠j->nth (put l i v) j=nth l j
 | _ :: _,0,0,_,h=>absurd rfl h
 | _ :: _,0,j+1,_,_=>rfl
 | _ :: _,i+1,0,_,_=>rfl
 | _ :: l,i+1,j+1,v,h=>Bi (l:=l) (i:=i) (j:=j) (by omega)
 | [],_,_,_,_=>rfl
theorem Af {α:Type} {l:List α} {i:Nat} (h:i<l.length):∃ x,nth l i=some x:=⟨l[i],by rw [Ab]; exact List.getElem?_eq_getElem h⟩
theorem Ur:∀ {us l:List Value} {o:Nat},o+us.length<=l.length->sets l o us=l.take o++us++l.drop (o+us.length)
 | [],l,o,_=>by simp [sets]
 | u :: us,l,o,h=>by
  simp only [sets]
  simp only [List.length_cons] at h
  rw [Ur (by simp; omega)]
  have h1:(l.set o u).take (o+1)=l.take o++[u]:=by
   rw [List.take_set,List.take_add_one]
   have:l[o]?=some (l[o]'(by omega)):=List.getElem?_eq_getElem _
   rw [this]
   simp only [Option.toList_some]
   rw [List.set_append_right _ _ (by simp; omega)]
   simp [show min o l.length=o from by omega]
  have h2:(l.set o u).drop (o+1+us.length)=l.drop (o+(us.length+1)):=by
   rw [List.drop_set_of_lt (by omega)]
   congr 1
   omega
  rw [h1,h2]
  simp
theorem Jt {C:Cx} : ∀ {cs:List AV} {vs:List Value},VRs C cs vs->cs.all leafOk=true->∀ v ∈ vs,v.oneCell'=true
 | [],[],_,_=>by simp
 | c :: cs,v :: vs,h,hl=>by
  simp only [VRs] at h
  simp only [List.all_cons,Bool.and_eq_true] at hl
  intro u hu
  rcases List.mem_cons.1 hu with rfl|hu
  ·cases c with
   | prim x=>have:=h.1; simp only [VR] at this; subst this; exact hl.1
   | bot=>simp [leafOk] at hl
   | agg _=>simp [leafOk] at hl
   | tup _=>simp [leafOk] at hl
   | frz _ _=>have:=h.1; simp only [VR] at this; obtain ⟨_,_,_,rfl,-⟩:=this; rfl
   | fptr _=>have:=h.1; simp only [VR] at this; obtain ⟨_,_,_,rfl,-⟩:=this; rfl
   | ref _ _ _=>have:=h.1; simp only [VR] at this; obtain ⟨_,rfl,-⟩:=this; rfl
   | sref _ _ _ _ _=>have:=h.1; simp only [VR] at this; obtain ⟨_,_,_,rfl,-⟩:=this; rfl
   | fn _ _=>have:=h.1; simp only [VR] at this; obtain ⟨_,rfl,-⟩:=this; rfl
   | bfn _ _=>have:=h.1; simp only [VR] at this; obtain ⟨_,rfl,-⟩:=this; rfl
   | ifc _ _=>have:=h.1; simp only [VR] at this; obtain ⟨_,rfl,-⟩:=this; rfl
   | mfn _ _ _=>have:=h.1; simp only [VR] at this; obtain ⟨_,rfl,-⟩:=this; rfl
   | lit _ _=>have:=h.1; simp only [VR] at this; obtain ⟨_,_,rfl,-⟩:=this; rfl
  ·exact Jt h.2 hl.2 u hu
 | [],_ :: _,h,_=>by simp only [VRs] at h
 | _ :: _,[],h,_=>by simp only [VRs] at h
theorem Le.of_store [Globs] {C:Cx} (ae:SR C) {id:Nat} {e e':Ent} {cs cs':Array Value} {t:TypeId} (he:nth C.S id=some e) (de:e'.ep=e.ep) (hb:C.w.heap[C.φ id]?=some (.cells cs t (0,0))) (hsz:cs'.size=cs.size) :
  Le C { C with w:=C.w.setRow (C.φ id) cs',S:=put C.S id e' }:=by
 have hm:∀ o,C.Mut (C.φ id) o:=fun o=>.inl ⟨id,A7 he,rfl⟩
 refine ⟨rfl,rfl,rfl,by simp,rfl,Nat.le_refl _,?_,?_,?_,?_,?_,fun _ k hk=>⟨k,hk,Nat.le_refl _,fun _=>rfl⟩⟩
 ·rintro b o - (⟨i,hi,h⟩|h)
  ·exact .inl ⟨i,by simpa [A6] using hi,h⟩
  ·exact .inr h
 ·intro b o v hv hn
  have hne:b≠C.φ id:=fun h=>hn (h ▸ hm o)
  have:=setRow_other C.w (C.φ id) b cs' hne
  simpa [World.cell?,this] using hv
 ·intro b _ hn
  exact setRow_other C.w (C.φ id) b cs' fun h=>hn 0 (h ▸ hm 0)
 ·intro b d t' fz hd
  by_cases h:b=C.φ id
  ·subst h
   rw [hb] at hd
   simp only [Option.some.injEq,Obj.cells.injEq] at hd
   obtain ⟨rfl,rfl,rfl⟩:=hd
   exact ⟨cs',setRow_heap _ _ _ _ _ _ hb,hsz⟩
  ·exact ⟨d,by rw [setRow_other _ _ _ _ h]; exact hd,rfl⟩
 ·intro i x hx _
  by_cases h:id=i
  ·subst h
   have:=Bp hx
   subst this
   exact ⟨e,he,de.symm,rfl⟩
  ·rw [Bi h] at hx
   exact ⟨x,hx,rfl,rfl⟩
theorem SR.of_store [Globs] {C:Cx} (ae:SR C) {id:Nat} {e e':Ent} {cs cs':Array Value} {t:TypeId} (he:nth C.S id=some e) (de:e'.ep=e.ep) (hb:C.w.heap[C.φ id]?=some (.cells cs t (0,0))) (hsz:cs'.size=cs.size) (hv:∃ vs r,cs'.toList=vs++r/\VRs C e'.cells vs) :
  SR { C with w:=C.w.setRow (C.φ id) cs',S:=put C.S id e' }:=by
 have hle:=Le.of_store ae he de hb hsz
 refine ⟨fun i x hx=>?_,fun i j hi hj h=>ae.ne i j (by simpa [A6] using hi) (by simpa [A6] using hj) h,ae.tok,fun i j o hi hj=>ae.apart i j o (by simpa [A6] using hi) hj,?_,fun b o ha=>by have:=ae.avlt b o ha; simpa using this,fun i o hi h1 h2=>by have:=ae.tlt i o hi h1 h2; simpa using this,Kl ae hle⟩
 ·by_cases h:id=i
  ·subst h
   have:=Bp hx
   subst this
   obtain ⟨vs,r,i2,i4⟩:=hv
   exact ⟨by rw [de]; exact (ae.ent id e he).1,cs',t,setRow_heap _ _ _ _ _ _ hb,vs,r,i2,VRs.mono hle _ _ i4⟩
  ·have hx':nth C.S i=some x:=by rw [<- Bi h]; exact hx
   obtain ⟨h1,arr,t',h2,vs',r',ei,h3⟩:=ae.ent i x hx'
   refine ⟨h1,arr,t',?_,vs',r',ei,VRs.mono hle _ _ h3⟩
   have hne:C.φ i≠C.φ id:=fun hh=>h (ae.ne i id (A7 hx') (A7 he) hh).symm
   simpa [setRow_other _ _ _ _ hne] using h2
 ·rintro b o (⟨i,hi,h⟩|h)
  ·exact ae.own b o (.inl ⟨i,by simpa [A6] using hi,h⟩)
  ·exact ae.own b o (.inr h)
theorem Aat [Globs] {C:Cx} (ae:SR C) {t:TypeId} {a x:AV} {va vx:Value} {S':List Ent} (ha:VR C a va) (hx:VR C x vx) (h:stA P t a x C.S=some S') :
  ∃ C',(Instr.storeAt t va vx).run P C.w=.ok () C'.w/\Le C C'/\SR C'/\C'.S=S'/\C'.tk=C.tk/\C'.n=C.n:=by
 unfold stA at h
 split at h
 ·rename_i id ep off sz vs hs hc
  split at h
  ·rename_i hh
   split at h
   ·rename_i cs he
    split at h
    ·rename_i cs' ho
     simp only [Option.some.injEq] at h; subst h
     obtain ⟨e,h1,h2,rfl⟩:=Bw he
     simp only [VR] at ha
     obtain ⟨b,rfl,hn,hb⟩:=ha
     obtain rfl:=hb e h1 h2
     obtain ⟨hlt,arr,t',h3,h4⟩:=ae.ent id e h1
     obtain ⟨p,h4⟩:=entP h4
     obtain ⟨h5,h6⟩:=E6 (Acw p ho)
     have hv:=Dl hc hx
     have hl1:=Ah hv
     have i8:=Ah h4
     simp only [Array.length_toList] at hl1 i8
     have c6:off+0+vx.cells.toList.length<=arr.size:=by simp; omega
     have hrun:=run_storeCells_at P (C.φ id) off t' vx.cells.toList 0 arr C.w h3 c6 (fun v hv'=>Jt hv hh.2 v hv')
     have fc:=Ur (us:=vx.cells.toList) (l:=arr.toList) (o:=off) (by simp; omega)
     have ck:VRs C (cs'++p) (arr.toList.take off++vx.cells.toList++arr.toList.drop (off+vx.cells.toList.length)):=by
      rw [<- fc,h5]; exact Hn h4 hv
     refine ⟨{ C with w:=C.w.setRow (C.φ id) (arr.toList.take off++vx.cells.toList++arr.toList.drop (off+vx.cells.toList.length)).toArray,S:=put C.S id ⟨ep,cs'⟩ },?_,Le.of_store ae h1 h2.symm h3 ?_,SR.of_store ae h1 h2.symm h3 ?_ (Adr (by simpa using ck)),rfl,rfl,rfl⟩
     ·have e1:vx.cells.size=sz:=by omega
      simp only [Nat.add_zero] at hrun
      simp [Instr.storeAt,Instr.sureAddr,storeVar,B5 hs,e1,hrun]
     ·have:=Ah ck
      rw [h5,J5] at this
      simp at this ⊢
      omega
     ·have:=Ah ck
      rw [h5,J5] at this
      simp at this ⊢
      omega
    ·simp at h
   ·simp at h
  ·simp at h
 ·simp at h
def Cx.more (C:Cx) (arr:Array Value) (t:TypeId) (cs:List AV):Cx :=
 { C with w:=C.w.alloc (.cells arr t),φ:=fun i=>if i=C.S.length then C.w.heap.size else C.φ i,S:=C.S++[⟨C.n,cs⟩],n:=C.n+1 }
theorem Gr {α:Type} : ∀ {l:List α} {v x:α} {i:Nat},nth (l++[v]) i=some x->(i=l.length/\x=v)\/(i<l.length/\nth l i=some x)
 | [],v,x,0,h=>.inl ⟨rfl,by simpa [nth] using h.symm⟩
 | [],v,x,i+1,h=>by simp [nth] at h
 | y :: l,v,x,0,h=>.inr ⟨by simp,h⟩
 | y :: l,v,x,i+1,h=>by
  rcases Gr (l:=l) (i:=i) h with ⟨h1,h2⟩|⟨h1,h2⟩
  ·exact .inl ⟨by simp [h1],h2⟩
  ·exact .inr ⟨by simpa using h1,h2⟩
theorem J2 [Globs] {C:Cx} (ae:SR C) {i:Nat} (h:i<C.S.length):C.φ i<C.w.heap.size:=by
 obtain ⟨e,he⟩:=Af h
 obtain ⟨-,cs,t,h2,-⟩:=ae.ent i e he
 exact (Array.getElem?_eq_some_iff.1 h2).1
theorem Le.more [Globs] {C:Cx} (ae:SR C) (arr:Array Value) (t:TypeId) (cs:List AV):Le C (C.more arr t cs):=by
 have hb:Below C.w.heap.size C.w (C.w.alloc (.cells arr t)):=(Below.refl _ _).alloc (Nat.le_refl _) _
 refine ⟨rfl,rfl,rfl,hb.size,rfl,Nat.le_succ _,?_,fun b o v hv _=>by rw [show (C.more arr t cs).w=C.w.alloc (.cells arr t) from rfl,Below.cell hb (Dg hv)]; exact hv,fun b hlt _=>hb.block b hlt,fun b d t' fz hd=>⟨d,A5 hb hd,rfl⟩,?_,fun _ k hk=>⟨k,hk,Nat.le_refl _,fun _=>rfl⟩⟩
 ·rintro b o hlt (⟨i,hi,h⟩|h)
  ·simp only [Cx.more] at hi h
   split at h
   ·omega
   ·exact .inl ⟨i,by simp at hi; omega,h⟩
  ·exact .inr h
 ·intro i x hx hn
  rcases Gr hx with ⟨h1,h2⟩|⟨h1,h2⟩
  ·subst h2; simp at hn
  ·refine ⟨x,h2,rfl,?_⟩
   simp only [Cx.more]
   rw [if_neg (by omega)]
theorem SR.moreP [Globs] {C:Cx} (ae:SR C) {arr:Array Value} {t:TypeId} {cs:List AV} (hv:∃ vs r,arr.toList=vs++r/\VRs C cs vs):SR (C.more arr t cs):=by
 have hle:=Le.more ae arr t cs
 have hb:Below C.w.heap.size C.w (C.w.alloc (.cells arr t)):=(Below.refl _ _).alloc (Nat.le_refl _) _
 refine ⟨fun i x hx=>?_,fun i j hi hj h=>?_,ae.tok,fun i j o hi hj h h1 h2=>?_,?_,fun b o ha=>Nat.lt_of_lt_of_le (ae.avlt b o ha) hb.size,fun i o hi h1 h2=>Nat.lt_of_lt_of_le (ae.tlt i o hi h1 h2) hb.size,Kl ae hle⟩
 ·rcases Gr hx with ⟨h1,rfl⟩|⟨h1,h2⟩
  ·obtain ⟨vs,r,i2,i4⟩:=hv
   refine ⟨Nat.lt_succ_self _,arr,t,?_,vs,r,i2,VRs.mono hle _ _ i4⟩
   simp only [Cx.more,h1,if_true]
   exact Aa _ _
  ·obtain ⟨g1,d,t',g2,vs',r',ei,g3⟩:=ae.ent i x h2
   refine ⟨Nat.lt_succ_of_lt g1,d,t',?_,vs',r',ei,VRs.mono hle _ _ g3⟩
   simp only [Cx.more]
   rw [if_neg (by omega)]
   exact A5 hb g2
 ·simp only [Cx.more,List.length_append,List.length_cons,List.length_nil] at hi hj h
  by_cases aj:i=C.S.length <;> by_cases bg:j=C.S.length
  ·omega
  ·rw [if_pos aj,if_neg bg] at h
   have:=J2 ae (i:=j) (by omega); omega
  ·rw [if_neg aj,if_pos bg] at h
   have:=J2 ae (i:=i) (by omega); omega
  ·rw [if_neg aj,if_neg bg] at h
   exact ae.ne i j (by omega) (by omega) h
 ·simp only [Cx.more,List.length_append,List.length_cons,List.length_nil] at hi h hj h1 h2
  by_cases aj:i=C.S.length
  ·rw [if_pos aj] at h
   have:=ae.tlt j o hj h1 h2; omega
  ·rw [if_neg aj] at h
   exact ae.apart i j o (by omega) hj h h1 h2
 ·rintro b o (⟨i,hi,h⟩|h)
  ·simp only [Cx.more,List.length_append,List.length_cons,List.length_nil] at hi h
   by_cases aj:i=C.S.length
   ·rw [if_pos aj] at h
    intro ha
    have:=ae.avlt b o ha; omega
   ·rw [if_neg aj] at h
    exact ae.own b o (.inl ⟨i,by omega,h⟩)
  ·exact ae.own b o (.inr h)
theorem SR.more [Globs] {C:Cx} (ae:SR C) {arr:Array Value} {t:TypeId} {cs:List AV} (hv:VRs C cs arr.toList):SR (C.more arr t cs):=SR.moreP ae ⟨_,[],by simp,hv⟩
theorem Ade {C:Cx} {arr:Array Value} {t:TypeId} {cs:List AV} : VR (C.more arr t cs) (.ref C.S.length C.n 0) (.pointer (some ⟨C.w.heap.size,0,none⟩)):=by
 simp only [VR]
 refine ⟨_,rfl,Nat.lt_succ_self _,fun e he de=>?_⟩
 simp [Cx.more]
theorem Mu (w:World) (t e:TypeId) (i:TypeInfo) (ty:TypeId) (ht:P.underlying t=some (.slice e)) (hi:P.info? e=some i) (base a:Option Addr) (n cap c:Nat) (h:n<=cap) :
  (Builtin.append_ #[t,t] ty #[.slice base n cap,.slice a 0 c]).run P w=.ok (.slice base n cap) w:=by
 cases base <;> cases a <;> simp [Builtin.append_,An ht,Go.sizeOf,typeInfo,hi,Builtin.lenOf,Builtin.firstCells,loadCells,loadCellsFrom,h,storeCells]
theorem G2 (w:World) (t ty e:TypeId) (i:TypeInfo) (ht:P.underlying t=some (.slice e)) (hi:P.info? e=some i)
  (g sLen sCap:Nat) (t':TypeId) (cur:Array Value) (hg:w.heap[g]?=some (.cells cur t' (0,0)))
  (a:Addr) (m c:Nat) (news:List Value) (hl:news.length=m*i.size) (b6:∀ (j:Nat) u,news[j]?=some u->w.cell? (a.add j)=some u) (h1:∀ u ∈ news,u.oneCell'=true)
  (ak:sLen+m<=sCap) (c6:sLen*i.size+news.length<=cur.size) :
  (Builtin.append_ #[t,t] ty #[.slice (some ⟨g,0,none⟩) sLen sCap,.slice (some a) m c]).run P w =
   .ok (.slice (some ⟨g,0,none⟩) (sLen+m) sCap) (w.setRow g (cur.toList.take (sLen*i.size)++news++cur.toList.drop (sLen*i.size+news.length)).toArray):=by
 have hf:=run_firstCells_some (P:=P) w i.size m a m c news hl b6
 have am:=run_storeCells_at P g (sLen*i.size) t' news 0 cur w hg (by simpa using c6) h1
 simp only [Nat.add_zero] at am
 simp [Builtin.append_,An ht,Go.sizeOf,typeInfo,hi,Builtin.lenOf,ak,hf,A2,am]
theorem Afm {w:World} {A:Nat->Nat->Prop} {c:AV} {v:Value} (h:PR w A c v):v.oneCell'=true:=by
 unfold PR at h
 split at h
 ·rw [h.1]; exact h.2
 ·obtain ⟨_,_,_,rfl,-⟩:=h; rfl
 ·obtain ⟨_,_,_,rfl,-⟩:=h; rfl
 ·rw [h]; rfl
 ·exact h.elim
theorem Pj {w:World} {A:Nat->Nat->Prop} : ∀ {cs:List AV} {vs:List Value},PRs w A cs vs->∀ v ∈ vs,v.oneCell'=true
 | [],[],_=>by simp
 | c :: cs,v :: vs,h=>by
  simp only [PRs] at h
  intro u hu
  rcases List.mem_cons.1 hu with rfl|hu
  ·exact Afm h.1
  ·exact Pj h.2 u hu
 | [],_ :: _,h=>by simp only [PRs] at h
 | _ :: _,[],h=>by simp only [PRs] at h
def Cx.tok (C:Cx) (w:World) (c:Cap) (x:Nat × Nat × Nat):Cx :=
 match c with
 | .tok id ep _=>{ C with w:=w,tk:=put C.tk id (ep+1),ψ:=fun i=>if i=id then x else C.ψ i }
 | _=>{ C with w:=w,tk:=C.tk++[0],ψ:=fun i=>if i=C.tk.length then x else C.ψ i }
def Em (C:Cx) (c:Cap):Nat:=match c with|.tok id _ _=>id|_=>C.tk.length
theorem Jb {C:Cx} {w:World} {c:Cap} {x:Nat × Nat × Nat} {sz:Nat} (h:Aq C.tk c sz=true):(C.tok w c x).w=w/\(C.tok w c x).av=C.av/\(C.tok w c x).φ=C.φ/\(C.tok w c x).S=C.S/\(C.tok w c x).n=C.n/\(C.tok w c x).tk=H3 C.tk c /\
  (C.tok w c x).ψ=(fun i=>if i=Em C c then x else C.ψ i)/\C.tk.length<=(C.tok w c x).tk.length/\Em C c<(C.tok w c x).tk.length/\(∀ i,i<(C.tok w c x).tk.length->i=Em C c\/i<C.tk.length) /\
  (∀ i k,nth C.tk i=some k->∃ k',nth (C.tok w c x).tk i=some k'/\k<=k'/\(k'=k->i≠Em C c)):=by
 cases c with
 | unk=>simp [Aq] at h
 | tight =>
  refine ⟨rfl,rfl,rfl,rfl,rfl,rfl,rfl,by simp [Cx.tok],by simp [Cx.tok,Em],fun i hi=>by simp [Cx.tok] at hi; simp [Em]; omega,fun i k hk=>?_⟩
  have hlt:=A7 hk
  refine ⟨k,?_,Nat.le_refl _,fun _=>by simp [Em]; omega⟩
  simp only [Cx.tok]
  rw [Ab] at hk ⊢
  rw [List.getElem?_append_left hlt]; exact hk
 | nilc =>
  refine ⟨rfl,rfl,rfl,rfl,rfl,rfl,rfl,by simp [Cx.tok],by simp [Cx.tok,Em],fun i hi=>by simp [Cx.tok] at hi; simp [Em]; omega,fun i k hk=>?_⟩
  have hlt:=A7 hk
  refine ⟨k,?_,Nat.le_refl _,fun _=>by simp [Em]; omega⟩
  simp only [Cx.tok]
  rw [Ab] at hk ⊢
  rw [List.getElem?_append_left hlt]; exact hk
 | nl=>simp [Aq] at h
 | nn=>simp [Aq] at h
 | tok id ep s =>
  simp only [Aq,Bool.and_eq_true,beq_iff_eq] at h
  refine ⟨rfl,rfl,rfl,rfl,rfl,rfl,rfl,by simp [Cx.tok,A6],by simpa [Cx.tok,Em,A6] using A7 h.2,fun i hi=>by simp [Cx.tok,A6] at hi; exact .inr hi,fun i k hk=>?_⟩
  by_cases hi:id=i
  ·subst hi
   rw [h.2] at hk; simp only [Option.some.injEq] at hk; subst hk
   refine ⟨ep+1,?_,by omega,fun h=>by omega⟩
   simp only [Cx.tok]
   obtain ⟨x,hx⟩:=Af (l:=put C.tk id (ep+1)) (i:=id) (by rw [A6]; exact A7 h.2)
   rw [hx,Bp hx]
  ·refine ⟨k,?_,Nat.le_refl _,fun _=>by simp [Em]; omega⟩
   simp only [Cx.tok]
   rw [Bi hi]; exact hk
theorem Gi {C:Cx} {w:World} {c:Cap} {b lo hi sz len cap:Nat} {a:Option Addr} (h:Aq C.tk c sz=true)
  (hc:cap=len\/∃ cs t,a=some ⟨b,0,none⟩/\(b,lo,hi)=(b,len*sz,cap*sz)/\w.heap[b]?=some (.cells cs t (0,0))/\cap*sz<=cs.size):CapR (C.tok w c (b,lo,hi)) (Ed C.tk c sz) a len cap:=by
 cases c with
 | unk=>simp [Aq] at h
 | tight =>
  refine ⟨0,?_,Nat.le_refl _,fun _=>?_⟩
  ·simp only [Cx.tok,Ab]; simp
  ·rcases hc with hc|⟨cs,t,ha,hp,hb,hl⟩
   ·exact .inl hc
   ·exact .inr ⟨b,cs,t,ha,by simp only [Cx.tok,if_true]; exact hp,hb,hl⟩
 | nilc =>
  refine ⟨0,?_,Nat.le_refl _,fun _=>?_⟩
  ·simp only [Cx.tok,Ab]; simp
  ·rcases hc with hc|⟨cs,t,ha,hp,hb,hl⟩
   ·exact .inl hc
   ·exact .inr ⟨b,cs,t,ha,by simp only [Cx.tok,if_true]; exact hp,hb,hl⟩
 | nl=>simp [Aq] at h
 | nn=>simp [Aq] at h
 | tok id ep s =>
  simp only [Aq,Bool.and_eq_true,beq_iff_eq] at h
  refine ⟨ep+1,?_,Nat.le_refl _,fun _=>?_⟩
  ·simp only [Cx.tok]
   obtain ⟨x,hx⟩:=Af (l:=put C.tk id (ep+1)) (i:=id) (by rw [A6]; exact A7 h.2)
   rw [hx,Bp hx]
  ·rcases hc with hc|⟨cs,t,ha,hp,hb,hl⟩
   ·exact .inl hc
   ·exact .inr ⟨b,cs,t,ha,by simp only [Cx.tok,if_true]; exact hp,hb,hl⟩
def H1 (C:Cx) (c:Cap) (b lo hi:Nat):Prop:=hi<=lo\/C.w.heap.size<=b\/(∃ id ep s,c=.tok id ep s/\(C.ψ id).1=b/\(C.ψ id).2.1<=lo/\hi<=(C.ψ id).2.2)
theorem Lj {C:Cx} {w:World} {c:Cap} {b lo hi sz:Nat} (h:Aq C.tk c sz=true) (hn:H1 C c b lo hi) {x o:Nat} (hm:(C.tok w c (b,lo,hi)).Mut x o):C.Mut x o\/(x=b/\lo<=o/\o<hi/\C.w.heap.size<=b):=by
 obtain ⟨e1,e2,e3,e4,e5,e6,e7,e8,e9,e10,e11⟩:=Jb (w:=w) (x:=(b,lo,hi)) h
 rcases hm with ⟨i,aj,hx⟩|⟨i,aj,h1,h2,h3⟩
 ·exact .inl (.inl ⟨i,by rwa [e4] at aj,by rwa [e3] at hx⟩)
 ·rw [e7] at h1 h2 h3
  dsimp only at h1 h2 h3
  by_cases hid:i=Em C c
  ·rw [if_pos hid] at h1 h2 h3
   simp only at h1 h2 h3
   rcases hn with hn|hn|⟨id,ep,s,rfl,g1,g2,g3⟩
   ·omega
   ·exact .inr ⟨h1.symm,h2,h3,hn⟩
   ·refine .inl (.inr ⟨id,?_,by rw [g1,h1],by omega,by omega⟩)
    simp only [Aq,Bool.and_eq_true,beq_iff_eq] at h
    exact A7 h.2
  ·rw [if_neg hid] at h1 h2 h3
   refine .inl (.inr ⟨i,?_,h1,h2,h3⟩)
   rcases e10 i aj with hh|hh
   ·exact absurd hh hid
   ·exact hh
theorem Le.of_tok {C:Cx} {w:World} {c:Cap} {b lo hi sz:Nat} (h:Aq C.tk c sz=true) (hn:H1 C c b lo hi) (hos:w.os=C.w.os) (fd:w.tape=C.w.tape) (df:w.output=C.w.output) (fe:C.w.heap.size<=w.heap.size)
  (hcell:∀ x o v,C.w.cell? ⟨x,o,none⟩=some v->¬ C.Mut x o->w.cell? ⟨x,o,none⟩=some v) (ff:∀ x,x<C.w.heap.size->(∀ o,¬ C.Mut x o)->w.heap[x]?=C.w.heap[x]?)
  (dz:∀ (b:Nat) (cs:Array Value) (t:TypeId) (fz:Nat × Nat),C.w.heap[b]?=some (Obj.cells cs t fz)->∃ cs':Array Value,w.heap[b]?=some (Obj.cells cs' t fz)/\cs'.size=cs.size):Le C (C.tok w c (b,lo,hi)):=by
 obtain ⟨e1,e2,e3,e4,e5,e6,e7,e8,e9,e10,e11⟩:=Jb (w:=w) (x:=(b,lo,hi)) h
 refine ⟨by rw [e1,hos],by rw [e1,fd],by rw [e1,df],by rw [e1]; exact fe,e2,by rw [e5]; exact Nat.le_refl _,fun x o hlt hm=>?_,by rw [e1]; exact hcell,by rw [e1]; exact ff,by rw [e1]; exact dz,fun i x hx _=>⟨x,by rwa [e4] at hx,rfl,by rw [e3]⟩,fun i k hk=>?_⟩
 ·rcases Lj h hn hm with h'|⟨rfl,-,-,h'⟩
  ·exact h'
  ·omega
 ·obtain ⟨k',g1,g2,g3⟩:=e11 i k hk
  exact ⟨k',g1,g2,fun e=>by rw [e7]; simp only; rw [if_neg (g3 e)]⟩
theorem SR.of_tok [Globs] {C:Cx} (ae:SR C) {w:World} {c:Cap} {b lo hi sz:Nat} (h:Aq C.tk c sz=true) (hn:H1 C c b lo hi) (hlt:lo<hi->b<w.heap.size) (hle:Le C (C.tok w c (b,lo,hi)))
  (fg:∀ i,i<C.S.length->w.heap[C.φ i]?=C.w.heap[C.φ i]?):SR (C.tok w c (b,lo,hi)):=by
 obtain ⟨e1,e2,e3,e4,e5,e6,e7,e8,e9,e10,e11⟩:=Jb (w:=w) (x:=(b,lo,hi)) h
 have old:∀ i,i<(C.tok w c (b,lo,hi)).tk.length->i≠Em C c->i<C.tk.length:=fun i aj hne=>(e10 i aj).resolve_left hne
 have key:∀ o,lo<=o->o<hi->(∀ j,j<C.tk.length->j≠Em C c->(C.ψ j).1=b->(C.ψ j).2.1<=o->o<(C.ψ j).2.2->False)/\(∀ i,i<C.S.length->C.φ i=b->False)/\¬ C.av b o:=by
  intro o h1 h2
  rcases hn with hn|hn|⟨id,ep,s,rfl,g1,g2,g3⟩
  ·omega
  ·refine ⟨fun j hj _ hb k1 k2=>?_,fun i aj hb=>?_,fun ha=>?_⟩
   ·have:=ae.tlt j o hj k1 k2; omega
   ·have:=J2 ae aj; omega
   ·have:=ae.avlt b o ha; omega
  ·simp only [Aq,Bool.and_eq_true,beq_iff_eq] at h
   have hid:=A7 h.2
   refine ⟨fun j hj hne hb k1 k2=>hne (ae.tok j id o hj hid (by rw [hb,g1]) k1 k2 (by omega) (by omega)),fun i aj hb=>ae.apart i id o aj hid (by rw [hb,g1]) (by omega) (by omega),ae.own b o (.inr ⟨id,hid,g1,by omega,by omega⟩)⟩
 refine ⟨fun i x hx=>?_,fun i j aj hj hh=>?_,fun i j o aj hj hh h1 h2 h3 h4=>?_,fun i j o aj hj hh h1 h2=>?_,fun x o hm=>?_,fun x o ha=>?_,fun i o aj h1 h2=>?_,Kl ae hle⟩
 ·rw [e4] at hx
  obtain ⟨g1,arr,t,g2,vs',r',ei,g3⟩:=ae.ent i x hx
  refine ⟨by rw [e5]; exact g1,arr,t,by rw [e1,e3,fg i (A7 hx)]; exact g2,vs',r',ei,VRs.mono hle _ _ g3⟩
 ·rw [e4] at aj hj; rw [e3] at hh
  exact ae.ne i j aj hj hh
 ·rw [e7] at hh h1 h2 h3 h4
  simp only at hh h1 h2 h3 h4
  by_cases fh:i=Em C c <;> by_cases fi:j=Em C c
  ·rw [fh,fi]
  ·rw [if_pos fh] at hh h1 h2; rw [if_neg fi] at hh h3 h4
   simp only at hh h1 h2
   exact ((key o h1 h2).1 j (old j hj fi) fi hh.symm h3 h4).elim
  ·rw [if_neg fh] at hh h1 h2; rw [if_pos fi] at hh h3 h4
   simp only at hh h3 h4
   exact ((key o h3 h4).1 i (old i aj fh) fh hh h1 h2).elim
  ·rw [if_neg fh] at hh h1 h2; rw [if_neg fi] at hh h3 h4
   exact ae.tok i j o (old i aj fh) (old j hj fi) hh h1 h2 h3 h4
 ·rw [e4] at aj; rw [e3,e7] at hh; rw [e7] at h1 h2
  simp only at hh h1 h2
  by_cases fi:j=Em C c
  ·rw [if_pos fi] at hh h1 h2
   simp only at hh h1 h2
   exact (key o h1 h2).2.1 i aj hh
  ·rw [if_neg fi] at hh h1 h2
   exact ae.apart i j o aj (old j hj fi) hh h1 h2
 ·rw [e2]
  rcases Lj h hn hm with h'|⟨rfl,h1,h2,h3⟩
  ·exact ae.own x o h'
  ·exact (key o h1 h2).2.2
 ·rw [e2] at ha; rw [e1]
  have:=ae.avlt x o ha
  have:=hle.size
  rw [e1] at this
  omega
 ·rw [e7] at h1 h2 ⊢; rw [e1]
  simp only at h1 h2 ⊢
  by_cases fh:i=Em C c
  ·rw [if_pos fh] at h1 h2 ⊢
   exact hlt (by simp only at h1 h2; omega)
  ·rw [if_neg fh] at h1 h2 ⊢
   have h3:=ae.tlt i o (old i aj fh) h1 h2
   have h4:=hle.size
   rw [e1] at h4
   omega
theorem Pq {t:TypeId} {sz:Nat} (h:apT P t=some sz):∃ e i z,P.underlying t=some (.slice e)/\P.info? e=some i/\i.zero=some z/\i.size=sz/\0<sz/\z.cells.size=sz/\i.bytes<=1048576/\(sz=3->i.bytes<=40):=by
 unfold apT at h
 split at h
 ·rename_i e he
  split at h
  ·rename_i s z i hs hz hi
   split at h
   ·rename_i hh
    simp only [Option.some.injEq] at h; subst h
    simp only [szOf,hi,Option.map_some,Option.some.injEq] at hs
    simp only [Ae,hi,Option.bind_some,Option.map_eq_some_iff] at hz
    obtain ⟨v,hv,rfl⟩:=hz
    exact ⟨e,i,v,Be he,hi,hv,hs,by omega,by simpa using hh.1,hh.2.1,fun e=>hh.2.2 (by omega)⟩
   ·simp at h
  ·simp at h
 ·simp at h
theorem Ju {sz:Nat} : ∀ {es:List (List AV)},B7 sz es=true->(∀ e ∈ es,e.length=sz):=by
 intro es h e he
 simp only [B7,List.all_eq_true,beq_iff_eq] at h
 exact h e he
def Src (C:Cx) (ys:List (List AV)) (vy:Value):Prop:=∃ a m cap,vy=.slice a m cap/\ys.length=m/\(m=0\/∃ b o news,a=some ⟨b,o,none⟩/\PRs C.w C.Avoid ys.flatten news/\∀ (j:Nat) u,news[j]?=some u->C.w.cell? ⟨b,o+j,none⟩=some u)
theorem Vm {sz:Nat} : ∀ {l:List (List AV)},(∀ e ∈ l,e.length=sz)->l.flatten.length=l.length*sz
 | [],_=>by simp
 | e :: l,h=>by
  rw [List.flatten_cons,List.length_append,h e (by simp),Vm (l:=l) fun x hx=>h x (by simp [hx]),List.length_cons,Nat.succ_mul]; omega
theorem Q2 [Globs] {C:Cx} (ae:SR C) {t ty:TypeId} {x y av:AV} {vx vy:Value} {tk':List Nat} {ys0:List (List AV)} {c20:Cap} (hx:VR C x vx) (fj:y=.frz ys0 c20) (i9:Src C ys0 vy) (h:apA P t x y C.tk=some (av,tk')) :
  ∃ v C',(Builtin.append_ #[t,t] ty #[vx,vy]).run P C.w=.ok v C'.w/\Le C C'/\SR C'/\C'.S=C.S/\C'.tk=tk'/\C'.n=C.n/\VR C' av v:=by
 unfold apA at h
 split at h
 ·rename_i es c ys c2 sz hT
  simp only [AV.frz.injEq] at fj
  obtain ⟨rfl,rfl⟩:=fj
  split at h
  ·rename_i hh
   obtain ⟨ag,gv,lp,ak⟩:=hh
   simp only [Option.some.injEq,Prod.mk.injEq] at h
   obtain ⟨rfl,rfl⟩:=h
   obtain ⟨e,i,z,hu,hi,hz,hsz,hpos,dx,j0,kg⟩:=Pq hT
   simp only [VR] at hx
   obtain ⟨a,len,cap,rfl,hlen,hcap,hC,hE⟩:=hx
   obtain ⟨a2,m,cap2,rfl,hm,hY⟩:=i9
   simp only [Aah,Bool.or_eq_true,Bool.and_eq_true,beq_iff_eq,decide_eq_true_eq] at ak
   have bu:∃ olds:List Value,olds.length=len*sz/\PRs C.w C.Avoid es.flatten olds/\(olds=[]\/∃ b o,a=some ⟨b,o,none⟩/\Lie C.w C.Avoid b o olds):=by
    rcases hE with rfl|⟨b,o,s',rfl,hr⟩
    ·exact ⟨[],by simp at hlen; simp [<- hlen],by simp [PRs],.inl rfl⟩
    ·by_cases hne:es=[]
     ·subst hne; exact ⟨[],by simp at hlen; simp [<- hlen],by simp [PRs],.inl rfl⟩
     ·have:=Jo hr gv hne
      subst this
      obtain ⟨l,g1,g2,g3⟩:=Dv hr
      exact ⟨l,by rw [g1,hlen],g2,.inr ⟨b,o,rfl,g3⟩⟩
   obtain ⟨olds,db,io,ja⟩:=bu
   by_cases gx:m=0
   ·-- nothing to append
    subst gx
    have j1:ys=[]:=List.eq_nil_of_length_eq_zero hm
    subst j1
    have hrun:=Mu (P:=P) C.w t e i ty hu hi a a2 len cap cap2 hcap
    obtain ⟨b,lo,aj,hn,hc⟩:∃ b lo aj,H1 C c b lo aj/\(lo<aj->b<C.w.heap.size)/\(cap=len\/∃ cs t,a=some ⟨b,0,none⟩/\(b,lo,aj)=(b,len*sz,cap*sz)/\C.w.heap[b]?=some (.cells cs t (0,0))/\cap*sz<=cs.size):=by
     cases c with
     | unk=>simp [Aq] at ag
     | tight=>exact ⟨0,0,0,.inl (Nat.le_refl _),by omega,.inl hC⟩
     | nilc=>exact ⟨0,0,0,.inl (Nat.le_refl _),by omega,.inl hC.2⟩
     | nl=>simp [Aq] at ag
     | nn=>simp [Aq] at ag
     | tok id ep s =>
      simp only [Aq,Bool.and_eq_true,beq_iff_eq] at ag
      obtain ⟨rfl,ag⟩:=ag
      obtain ⟨k,h1,h2,h3⟩:=hC
      rw [ag] at h1; simp only [Option.some.injEq] at h1; subst h1
      rcases h3 rfl with h3|⟨b,cs,t',g1,g2,g3,g4⟩
      ·exact ⟨0,0,0,.inl (Nat.le_refl _),by omega,.inl h3⟩
      ·exact ⟨b,len*s,cap*s,.inr (.inr ⟨id,ep,s,rfl,by rw [g2],by rw [g2]; exact Nat.le_refl _,by rw [g2]; exact Nat.le_refl _⟩),fun _=>(Array.getElem?_eq_some_iff.1 g3).1,.inr ⟨cs,t',g1,rfl,g3,g4⟩⟩
    have hle:Le C (C.tok C.w c (b,lo,aj)):=Le.of_tok ag hn rfl rfl rfl (Nat.le_refl _) (fun _ _ _ h _=>h) (fun _ _ _=>rfl) (fun _ cs _ _ h=>⟨cs,h,rfl⟩)
    obtain ⟨e1,e2,e3,e4,e5,e6,-⟩:=Jb (w:=C.w) (x:=(b,lo,aj)) ag
    refine ⟨.slice a len cap,C.tok C.w c (b,lo,aj),by rw [e1]; exact hrun,hle,SR.of_tok ae ag hn hc.1 hle (fun _ _=>rfl),e4,e6,e5,?_⟩
    simp only [VR,List.append_nil]
    refine ⟨a,len,cap,rfl,hlen,hcap,Gi ag hc.2,hE.imp id ?_⟩
    rintro ⟨b,o,s',rfl,hr⟩
    exact ⟨b,o,s',rfl,Ap.stays hle.stays _ _ _ _ hr⟩
   ·-- the new cells
    obtain ⟨b2,o2,news,rfl,hn2,gy⟩:=hY.resolve_left gx
    have bv:news.length=m*sz:=by rw [<- Kg hn2,Vm (Ju lp),hm]
    have gz:=Pj hn2
    have bw:∀ (j:Nat) u,news[j]?=some u->C.w.cell? (Addr.add ⟨b2,o2,none⟩ j)=some u:=fun j u hj=>by rw [A2]; exact gy j u hj
    have dn:∀ e ∈ es++ys,e.length=sz:=fun x hx=>by
     rcases List.mem_append.1 hx with hx|hx
     ·exact Ju gv x hx
     ·exact Ju lp x hx
    by_cases ba:(∃ id ep s b cs t',c=.tok id ep s/\nth C.tk id=some ep/\s=sz/\a=some ⟨b,0,none⟩/\C.ψ id=(b,len*sz,cap*sz)/\C.w.heap[b]?=some (.cells cs t' (0,0))/\cap*sz<=cs.size)/\len+m<=cap
    ·-- in place
     obtain ⟨⟨id,ep,s,b,arr,t',rfl,hid,rfl,rfl,hψ,hb,c6⟩,bz⟩:=ba
     have ej:(len+m)*s<=cap*s:=Nat.mul_le_mul_right _ bz
     have mf:(len+m)*s=len*s+m*s:=Nat.add_mul _ _ _
     have me:0<m*s:=Nat.mul_pos (by omega) hpos
     have hrun:=G2 (P:=P) C.w t ty e i hu hi b len cap t' arr hb ⟨b2,o2,none⟩ m cap2 news (by rw [hsz]; exact bv) bw gz bz (by rw [hsz,bv]; omega)
     rw [hsz] at hrun
     generalize hA:(arr.toList.take (len*s)++news++arr.toList.drop (len*s+news.length)).toArray=arr' at hrun
     have co:arr'.size=arr.size:=by rw [<- hA]; simp; omega
     have jb:∀ o,(o<len*s\/(len+m)*s<=o)->arr'[o]?=arr[o]?:=by
      intro o ho
      rw [<- hA]
      simp only [List.getElem?_toArray]
      rcases ho with ho|ho
      ·rw [List.append_assoc,List.getElem?_append_left (by simp; omega),List.getElem?_take_of_lt ho]; simp
      ·rw [List.getElem?_append_right (by simp; omega),List.getElem?_drop,<- Array.getElem?_toList]
       congr 1
       simp
       omega
     have hlt:b<C.w.heap.size:=(Array.getElem?_eq_some_iff.1 hb).1
     have bc:=A7 hid
     have d6:∀ o,len*s<=o->o<cap*s->C.Mut b o:=fun o h1 h2=>.inr ⟨id,bc,by rw [hψ],by rw [hψ]; exact h1,by rw [hψ]; exact h2⟩
     have hn:H1 C (.tok id ep s) b ((len+m)*s) (cap*s):=.inr (.inr ⟨id,ep,s,rfl,by rw [hψ],by rw [hψ]; simp only; omega,by rw [hψ]; exact Nat.le_refl _⟩)
     have hle:Le C (C.tok (C.w.setRow b arr') (.tok id ep s) (b,(len+m)*s,cap*s)):=by
      refine Le.of_tok ag hn rfl rfl rfl (by simp) ?_ ?_ ?_
      ·intro x o v hv dg
       by_cases fk:x=b
       ·subst fk
        have:o<len*s\/(len+m)*s<=o:=by
         rcases Nat.lt_or_ge o (len*s) with h|h
         ·exact .inl h
         ·right
          rcases Nat.lt_or_ge o (cap*s) with h'|h'
          ·exact absurd (d6 o h h') dg
          ·omega
        have h1:=setRow_heap C.w x arr arr' t' (0,0) hb
        simp only [World.cell?,hb] at hv
        simp only [World.cell?,h1,jb o this]
        exact hv
       ·simpa [World.cell?,setRow_other C.w b x arr' fk] using hv
      ·intro x _ dg
       refine setRow_other C.w b x arr' fun h=>dg (len*s) (h ▸ d6 _ (Nat.le_refl _) (by omega))
      ·intro x d t'' fz hd
       by_cases fk:x=b
       ·subst fk
        rw [hb] at hd
        simp only [Option.some.injEq,Obj.cells.injEq] at hd
        obtain ⟨rfl,rfl,rfl⟩:=hd
        exact ⟨arr',setRow_heap _ _ _ _ _ _ hb,co⟩
       ·exact ⟨d,by rw [setRow_other _ _ _ _ fk]; exact hd,rfl⟩
     obtain ⟨e1,e2,e3,e4,e5,e6,e7,e8,e9,e10,e11⟩:=Jb (w:=C.w.setRow b arr') (x:=(b,(len+m)*s,cap*s)) ag
     have d7:=SR.of_tok ae ag hn (fun _=>by simpa using hlt) hle (fun i hi=>setRow_other _ _ _ _ fun h=>ae.apart i id (len*s) hi bc (by rw [hψ]; exact h) (by rw [hψ]; exact Nat.le_refl _) (by rw [hψ]; simp only; omega))
     refine ⟨.slice (some ⟨b,0,none⟩) (len+m) cap,_,by rw [e1]; exact hrun,hle,d7,e4,e6,e5,?_⟩
     have fa:(C.w.setRow b arr').heap[b]?=some (.cells arr' t' (0,0)):=setRow_heap _ _ _ _ _ _ hb
     simp only [VR]
     refine ⟨_,len+m,cap,rfl,by simp; omega,bz,Gi ag (.inr ⟨arr',t',rfl,rfl,fa,by omega⟩),.inr ⟨b,0,s,rfl,?_⟩⟩
     have am:=hle.stays
     refine Dk (l:=olds++news) dn (by rw [List.flatten_append]; exact Eb (PRs.stays am _ _ io) (PRs.stays am _ _ hn2)) (G0 fun j v hj=>?_)
     rw [Nat.zero_add]
     rcases Nat.lt_or_ge j olds.length with g9|g9
     ·rw [List.getElem?_append_left g9] at hj
      rcases ja with rfl|⟨b',o',ha,hl⟩
      ·simp at g9
      ·simp only [Option.some.injEq,Addr.mk.injEq,and_true] at ha
       obtain ⟨rfl,rfl⟩:=ha
       have:=Gy (hl.stays am) j v hj
       simpa using this
     ·rw [List.getElem?_append_right g9] at hj
      have lq:=(List.getElem?_eq_some_iff.1 hj).1
      have h1:len*s<=j:=by omega
      have h2:j<(len+m)*s:=by omega
      constructor
      ·rw [e1]
       simp only [World.cell?,fa]
       have:arr'[j]?=some v:=by
        rw [<- hA]
        simp only [List.getElem?_toArray]
        rw [List.getElem?_append_left (by simp; omega),List.getElem?_append_right (by simp; omega)]
        rw [<- hj]; congr 1; simp; omega
       simpa using this
      ·rintro (bp|⟨k,hk,hφ⟩|⟨k,hk,g1,g2,g3⟩)
       ·rw [e2] at bp
        exact ae.own b j (d6 j h1 (by omega)) bp
       ·rw [e4] at hk; rw [e3] at hφ
        exact ae.apart k id j hk bc (by rw [hψ]; exact hφ) (by rw [hψ]; exact h1) (by rw [hψ]; simp only; omega)
       ·rw [e7] at g1 g2 g3
        dsimp only at g1 g2 g3
        by_cases dh:k=id
        ·rw [if_pos (show k=Em C (.tok id ep s) from dh)] at g1 g2 g3
         simp only at g2; omega
        ·rw [if_neg (show ¬ k=Em C (.tok id ep s) from dh)] at g1 g2 g3
         have jc:=(e10 k hk).resolve_left dh
         exact dh (ae.tok k id j jc bc (by rw [hψ]; exact g1) g2 g3 (by rw [hψ]; exact h1) (by rw [hψ]; simp only; omega))
    ·-- a new block
     have bq:cap<len+m:=by
      rcases Nat.lt_or_ge cap (len+m) with h|h
      ·exact h
      ·exfalso
       cases c with
       | unk=>simp [Aq] at ag
       | tight=>have:cap=len:=hC; omega
       | nilc=>have:cap=len:=hC.2; omega
       | nl=>simp [Aq] at ag
       | nn=>simp [Aq] at ag
       | tok id ep s =>
        simp only [Aq,Bool.and_eq_true,beq_iff_eq] at ag
        obtain ⟨rfl,ag⟩:=ag
        obtain ⟨k,h1,h2,h3⟩:=hC
        rw [ag] at h1; simp only [Option.some.injEq] at h1; subst h1
        rcases h3 rfl with h3|⟨b,cs,t',g1,g2,g3,g4⟩
        ·omega
        ·exact ba ⟨⟨id,ep,s,b,cs,t',rfl,ag,rfl,g1,g2,g3,g4⟩,h⟩
     have ej:len*sz+m*sz=(len+m)*sz:=(Nat.add_mul _ _ _).symm
     have bk:(len+m)*i.bytes<=140737488355328:=by
      rcases ak with ak|⟨h3,ak⟩
      ·have:(len+m)*i.bytes<=1048576*1048576:=Nat.mul_le_mul (by omega) j0
       omega
      ·have:(len+m)*i.bytes<=3518437208883*40:=Nat.mul_le_mul (by omega) (kg h3)
       omega
     obtain ⟨ncap,zs,hrun,dk,hzl⟩:∃ ncap zs,(Builtin.append_ #[t,t] ty #[.slice a len cap,.slice (some ⟨b2,o2,none⟩) m cap2]).run P C.w=.ok (.slice (some ⟨C.w.heap.size,0,none⟩) (len+m) ncap) (C.w.drew.alloc (.cells (olds++news++zs).toArray e))/\len+m<=ncap/\zs.length=(ncap - (len+m))*sz:=by
      cases a with
      | none =>
       have fl:len=0:=by
        rcases ja with h|⟨b,o,h,-⟩
        ·rw [h] at db
         simp only [List.length_nil] at db
         rcases Nat.mul_eq_zero.1 db.symm with h|h
         ·exact h
         ·omega
        ·simp at h
       have fm:cap=0:=by
        cases c with
        | unk=>simp [Aq] at ag
        | tight=>have:cap=len:=hC; omega
        | nilc=>have:cap=len:=hC.2; omega
        | nl=>simp [Aq] at ag
        | nn=>simp [Aq] at ag
        | tok id ep s =>
         simp only [Aq,Bool.and_eq_true,beq_iff_eq] at ag
         obtain ⟨k,h1,h2,h3⟩:=hC
         rw [ag.2] at h1; simp only [Option.some.injEq] at h1; subst h1
         rcases h3 rfl with h3|⟨b,cs,t',g1,-⟩
         ·omega
         ·simp at g1
       subst fl fm
       have ho:olds=[]:=List.eq_nil_of_length_eq_zero (by simpa using db)
       subst ho
       have:=run_append_nil (P:=P) C.w t ty e i z hu hi hz ⟨b2,o2,none⟩ m cap2 news (by rw [hsz]; exact bv) bw (by omega) (by omega) (by simp only [Nat.zero_add] at bk; omega)
       refine ⟨grownCap C.w m 0 e,(Builtin.zeroCells z.cells (grownCap C.w m 0 e - m)).toList,?_,by have:=grownCap_ge C.w m 0 e; omega,by simp [size_zeroCells,dx]⟩
       rw [this]
       simp only [Nat.zero_add,List.nil_append]
       congr 3
       apply Array.ext'; simp
      | some ad =>
       obtain ⟨b,o,hab,hcells⟩:∃ b o,(olds=[]\/ad=⟨b,o,none⟩)/\∀ (j:Nat) v,olds[j]?=some v->C.w.cell? (ad.add j)=some v:=by
        rcases ja with rfl|⟨b,o,h,hl⟩
        ·exact ⟨0,0,.inl rfl,by simp⟩
        ·simp only [Option.some.injEq] at h; subst h
         exact ⟨b,o,.inr rfl,fun j v hj=>by rw [A2]; exact (Gy hl j v hj).1⟩
       have:=run_append_grow (P:=P) C.w t ty e i z hu hi hz ad len cap olds (by rw [hsz]; exact db) hcells ⟨b2,o2,none⟩ m cap2 news (by rw [hsz]; exact bv) bw bq (by omega) (growslice_fits bq bk)
       refine ⟨grownCap C.w (len+m) cap e,(Builtin.zeroCells z.cells (grownCap C.w (len+m) cap e - (len+m))).toList,?_,grownCap_ge C.w (len+m) cap e,by simp [size_zeroCells,dx]⟩
       rw [this]
       congr 3
       apply Array.ext'; simp
     have hbel:Below C.w.heap.size C.w (C.w.drew.alloc (.cells (olds++news++zs).toArray e)):=((Below.refl _ _).drew).alloc (by simp) _
     have jd:(C.w.drew.alloc (.cells (olds++news++zs).toArray e)).heap[C.w.heap.size]?=some (.cells (olds++news++zs).toArray e (0,0)):=Aa C.w.drew _
     have hn:H1 C c C.w.heap.size ((len+m)*sz) (ncap*sz):=.inr (.inl (Nat.le_refl _))
     have hle:Le C (C.tok (C.w.drew.alloc (.cells (olds++news++zs).toArray e)) c (C.w.heap.size,(len+m)*sz,ncap*sz)) :=
      Le.of_tok ag hn hbel.os hbel.tape hbel.output hbel.size (fun b o v hv _=>by rw [Below.cell hbel (Dg hv)]; exact hv) (fun b hb _=>hbel.block b hb) (fun b cs t fz hb=>⟨cs,A5 hbel hb,rfl⟩)
     have d7:=SR.of_tok ae ag hn (fun _=>(Array.getElem?_eq_some_iff.1 jd).1) hle (fun i hi=>hbel.block _ (J2 ae hi))
     obtain ⟨e1,e2,e3,e4,e5,e6,e7,e8,e9,e10,e11⟩:=Jb (w:=C.w.drew.alloc (.cells (olds++news++zs).toArray e)) (x:=(C.w.heap.size,(len+m)*sz,ncap*sz)) ag
     refine ⟨_,_,by rw [e1]; exact hrun,hle,d7,e4,e6,e5,?_⟩
     have mg:(ncap - (len+m))*sz=ncap*sz - (len+m)*sz:=Nat.sub_mul _ _ _
     have hnn:(len+m)*sz<=ncap*sz:=Nat.mul_le_mul_right _ dk
     simp only [VR]
     refine ⟨_,len+m,ncap,rfl,by simp; omega,dk,Gi ag (.inr ⟨_,e,rfl,rfl,jd,by simp; omega⟩),.inr ⟨C.w.heap.size,0,sz,rfl,?_⟩⟩
     have am:=hle.stays
     refine Dk (l:=olds++news) dn (by rw [List.flatten_append]; exact Eb (PRs.stays am _ _ io) (PRs.stays am _ _ hn2)) (G0 fun j v hj=>?_)
     rw [Nat.zero_add]
     have ia:j<(len+m)*sz:=by
      have:=(List.getElem?_eq_some_iff.1 hj).1
      simp at this; omega
     constructor
     ·rw [e1]
      simp only [World.cell?,jd]
      have je:j<(olds++news).length:=(List.getElem?_eq_some_iff.1 hj).1
      have:(olds++news++zs)[j]?=some v:=by rw [List.getElem?_append_left je]; exact hj
      simpa using this
     ·rintro (bp|bm)
      ·rw [e2] at bp
       have:=ae.avlt _ _ bp; omega
      ·rcases Lj ag hn bm with h|⟨-,h1,h2,-⟩
       ·exact ae.fresh (Nat.le_refl _) (.inr h)
       ·omega
  ·simp at h
 ·simp at h
theorem Yl [Globs] {C:Cx} (ae:SR C) {t ty:TypeId} {x y av:AV} {vx vy:Value} {tk':List Nat} (hx:VR C x vx) (hy:VR C y vy) (h:apA P t x y C.tk=some (av,tk')) :
  ∃ v C',(Builtin.append_ #[t,t] ty #[vx,vy]).run P C.w=.ok v C'.w/\Le C C'/\SR C'/\C'.S=C.S/\C'.tk=tk'/\C'.n=C.n/\VR C' av v:=by
 have h0:=h
 unfold apA at h
 split at h
 ·rename_i es c ys c2 sz hT
  refine Q2 ae hx rfl ?_ h0
  simp only [VR] at hy
  obtain ⟨a,m,cap,rfl,hm,-,-,hY⟩:=hy
  refine ⟨a,m,cap,rfl,hm,?_⟩
  rcases hY with rfl|⟨b,o,s',rfl,hr⟩
  ·left; simpa using hm.symm
  ·right
   obtain ⟨l,g1,g2,g3⟩:=Dv hr
   exact ⟨b,o,l,rfl,g2,fun j u hj=>(Gy g3 j u hj).1⟩
 ·simp at h
theorem Qh {w:World} {e:TypeId} {z:List AV} {s m:Nat} (hz:Ae P e=some z) (dx:z.length=s) (jf:0<s) :
  ∃ (zv:Value) (arr:Array Value),(zeroValue e).run P w=.ok zv w/\arr.toList.map cst1=(List.replicate m z).flatten/\(m*s=0->arr=#[])/\(m*s≠0->arr=(Array.range (m*s)).map fun x=>zv.cells[x % zv.cells.size]!):=by
 obtain ⟨zv,hz1,rfl⟩:=Ge (w:=w) hz
 have hl:zv.cells.toList.length=s:=by simpa using dx
 have hl':zv.cells.size=s:=by simpa using hl
 by_cases hm:m*s=0
 ·have gx:m=0:=by
   rcases Nat.mul_eq_zero.1 hm with h|h
   ·exact h
   ·omega
  exact ⟨zv,#[],hz1,by simp [gx],fun _=>rfl,fun h=>absurd hm h⟩
 ·refine ⟨zv,(Array.range (m*s)).map fun x=>zv.cells[x % zv.cells.size]!,hz1,?_,fun h=>absurd h hm,fun _=>rfl⟩
  have:=Mr zv.cells.toList s hl jf m
  have e1:((Array.range (m*s)).map (zv.cells[· % zv.cells.size]!)).toList=(List.replicate m zv.cells.toList).flatten:=by
   rw [<- this]
   simp [hl',Array.toList_range]
   intro a _; rw [getElem!_def]; cases zv.cells[a % s]? <;> rfl
  rw [e1,List.map_flatten,List.map_replicate]
theorem Zz {C:Cx} {t:TypeId} {l c:AV} {vl vc:Value} {n sz:Nat} {cs:List AV} (hl:VR C l vl) (hc:VR C c vc) (h:mkA P t l c=some (n,sz,cs)) :
  ∃ (e:TypeId) (m:Nat) (arr:Array Value),(Instr.makeSlice t vl vc).run P C.w=.ok (.slice (some ⟨C.w.heap.size,0,none⟩) n m) (C.w.alloc (.cells arr e))/\arr.toList.map cst1=cs/\n<=m/\cs.length=m*sz/\intN l=some n:=by
 unfold mkA mkB at h
 split at h
 ·rename_i l' c' sz' z b h1 h2 h3 h4 h5
  split at h
  ·rename_i hh
   simp only [Option.some.injEq,Prod.mk.injEq] at h
   obtain ⟨rfl,rfl,rfl⟩:=h
   obtain ⟨g1,g2,g3,g4⟩:=hh
   cases he:Au P t with
   | none=>rw [he] at h3; simp at h3
   | some e =>
    rw [he] at h3 h4 h5
    simp only [Option.bind_some] at h3 h4 h5
    obtain ⟨kl,rfl⟩:=Bx h1 hl
    obtain ⟨kc,rfl⟩:=Bx h2 hc
    obtain ⟨zv,arr,r1,r2,r3,r4⟩:=Qh (w:=C.w) (m:=c') h4 g4 (by omega)
    refine ⟨e,c',arr,?_,r2,g1,?_,h1⟩
    ·simp only [Pr,Option.map_eq_some_iff] at h5
     obtain ⟨i,hi,rfl⟩:=h5
     have w1:IntKind.i64.wrap (l':Int)=l':=Go.IntWalk.i64_in _ (by omega)
     have w2:IntKind.i64.wrap (c':Int)=c':=Go.IntWalk.i64_in _ (by omega)
     have hb:(i.bytes:Int)*(c':Int)<=2 ^ 40:=by
      have:i.bytes*c'<=1048576*1048576:=Nat.mul_le_mul g3 g2
      have e:((i.bytes*c':Nat):Int)=(i.bytes:Int)*c':=by simp
      rw [<- e]; omega
     have aw:c'*i.bytes<=2 ^ 40:=by
       rw [Nat.mul_comm]; have:((i.bytes*c':Nat):Int)=(i.bytes:Int)*c':=by simp
       omega
     have n1:¬ ((c':Int)<0\/(i.bytes:Int)*c' > 2 ^ 48):=by omega
     have n2:¬ ((l':Int)<0):=by omega
     have n3:¬ ((l':Int) > (c':Int)):=by omega
     have n4:¬ (c'*i.bytes > roomBytes):=by unfold roomBytes; omega
     have ak:(askRoom (c'*i.bytes)).run P C.w=.ok () C.w:=by simp [askRoom,n4]
     simp [Instr.makeSlice,Sem.run_bind,An (Be he),asInt,asIntOf,typeInfo,w1,w2,hi]
     rw [if_neg (by omega)]
     simp only [ak,Result.andThen_ok,B5 h3]
     by_cases hm:c'*(sz'+1)=0
     ·have e0:∀ f:Nat->Value,(Array.range 0).map f=#[]:=fun f=>by simp
      rw [if_pos hm,r3 hm,hm,e0]
      rfl
     ·rw [if_neg hm,r4 hm,r1]
      rfl
    ·have:∀ (m:Nat) (z:List AV),(List.replicate m z).flatten.length=m*z.length:=fun m z=>by simp
     rw [this,g4]
  ·simp at h
 ·simp at h
theorem V6 {α:Type} : ∀ {l:List α} {i:Nat} {x:α},nth l i=some x->put l i x=l
 | _ :: _,0,_,h=>by simp only [nth,Option.some.injEq] at h; subst h; rfl
 | _ :: l,i+1,_,h=>by simp only [nth] at h; simp only [put,V6 h]
 | [],_,_,h=>by simp [nth] at h
theorem Xs [Globs] {C:Cx} (ae:SR C) {sz n m:Nat} {s:AV} {vs:Value} {cs:List AV} (hs:VR C s vs) (hl:lenA s=some m) (dg:n<=m) (h:srcA sz n s C.S=some cs) :
  ∃ news:List Value,(Builtin.firstCells sz n vs).run P C.w=.ok news.toArray C.w/\VRs C cs news/\news.length=n*sz:=by
 unfold srcA at h
 split at h
 ·rename_i es c
  split at h
  ·rename_i hr
   simp only [Option.some.injEq] at h; subst h
   simp only [lenA,Option.some.injEq] at hl
   simp only [VR] at hs
   obtain ⟨a,len,cap,rfl,hlen,-,-,hE⟩:=hs
   by_cases hn:n=0
   ·subst hn
    refine ⟨[],?_,by simp [VRs],by simp⟩
    cases a <;> simp [Builtin.firstCells,loadCells,loadCellsFrom]
   ·rcases hE with rfl|⟨b,o,s',rfl,hp⟩
    ·simp at hl; omega
    ·have hne:es≠[]:=by rintro rfl; simp at hl; omega
     have:=Jo hp hr hne
     subst this
     obtain ⟨l,g1,g2,g3⟩:=Dv (Kf n hp)
     have cb:l.length=n*s':=by rw [g1,List.length_take,show min n es.length=n by omega]
     refine ⟨l,?_,Ey g2,cb⟩
     exact run_firstCells_some (P:=P) C.w s' n ⟨b,o,none⟩ len cap l cb (fun j v hj=>by rw [A2]; exact (Gy g3 j v hj).1)
  ·simp at h
 ·rename_i id ep off len' sz'
  split at h
  ·rename_i hsz
   subst hsz
   split at h
   ·rename_i ce he
    obtain ⟨e,h1,h2,rfl⟩:=Bw he
    simp only [lenA,Option.some.injEq] at hl
    subst hl
    simp only [VR] at hs
    obtain ⟨b,a,cap,rfl,hcap,ha,lr,hb⟩:=hs
    obtain rfl:=(hb e h1 h2).1
    obtain ⟨hlt,arr,t',h3,h4⟩:=ae.ent id e h1
    obtain ⟨p,h4⟩:=entP h4
    obtain ⟨h5,h6⟩:=Gg (Hm off h4) (by rw [List.drop_append]; exact Aay _ h)
    by_cases hn:n=0
    ·subst hn
     rw [Nat.zero_mul] at h
     simp only [takeN,Option.some.injEq] at h; subst h
     refine ⟨[],?_,by simp [VRs],by simp⟩
     cases a <;> simp [Builtin.firstCells,loadCells,loadCellsFrom]
    ·rcases ha with ha|rfl
     ·omega
     ·have cb:((arr.toList.drop off).take (n*sz)).length=n*sz:=by simp at h6 ⊢; omega
      refine ⟨(arr.toList.drop off).take (n*sz),?_,h5,cb⟩
      refine run_firstCells_some (P:=P) C.w sz n ⟨C.φ id,off,none⟩ len' cap _ cb (fun j v hj=>?_)
      rw [A2]
      have bg:j<n*sz:=by rw [<- cb]; exact (List.getElem?_eq_some_iff.1 hj).1
      rw [List.getElem?_take_of_lt bg,List.getElem?_drop] at hj
      simp [World.cell?,h3]; simpa using hj
   ·simp at h
  ·simp at h
 ·simp at h
theorem Yz [Globs] {C:Cx} (ae:SR C) {t t' ty:TypeId} {d s:AV} {vd vs:Value} {n:Nat} {S':List Ent} (hd:VR C d vd) (hs:VR C s vs) (h:cpA P t d s C.S=some (n,S')) :
  ∃ C',(Builtin.copy_ #[t,t'] ty #[vd,vs]).run P C.w=.ok (.int .i64 (n:Int)) C'.w/\Le C C'/\SR C'/\C'.S=S'/\C'.tk=C.tk/\C'.n=C.n:=by
 unfold cpA at h
 split at h
 ·rename_i id ep off len sz m hm
  split at h
  ·rename_i hsz
   split at h
   ·rename_i news cs0 i9 mh
    split at h
    ·rename_i kh
     split at h
     ·rename_i cs' ho
      simp only [Option.some.injEq,Prod.mk.injEq] at h
      obtain ⟨rfl,rfl⟩:=h
      obtain ⟨e,h1,h2,rfl⟩:=Bw mh
      obtain ⟨a2,cap2,rfl⟩:=N2 hs hm
      obtain ⟨us,r1,r2,r3⟩:=Xs (P:=P) ae hs hm (Nat.min_le_left _ _) i9
      simp only [VR] at hd
      obtain ⟨b,a,cap,rfl,hcap,ha,lr,hb⟩:=hd
      obtain rfl:=(hb e h1 h2).1
      obtain ⟨hlt,arr,tt,h3,h4⟩:=ae.ent id e h1
      obtain ⟨p,h4⟩:=entP h4
      obtain ⟨h5,h6⟩:=E6 (Acw p ho)
      have hl2:=Ah r2
      have i8:=Ah h4
      simp only [Array.length_toList] at i8
      cases he:Au P t with
      | none=>rw [he] at hsz; simp at hsz
      | some el =>
       rw [he] at hsz
       simp only [Option.bind_some] at hsz
       have kk:Nat.min m len=min m len:=rfl
       by_cases hn:min m len=0
       ·rw [hn] at r3
        have px:us=[]:=List.eq_nil_of_length_eq_zero (by omega)
        subst px
        have b6:news=[]:=List.eq_nil_of_length_eq_zero (by simpa using hl2)
        subst b6
        have:cs'=e.cells:=by
         have:cs'++p=e.cells++p:=by rw [h5]; simp [puts]
         exact List.append_cancel_right this
        subst this
        have mi:put C.S id ⟨ep,e.cells⟩=C.S:=by subst h2; exact V6 h1
        refine ⟨C,?_,Le.refl C,ae,mi.symm,rfl,rfl⟩
        rw [hn] at r1 ⊢
        cases a <;> simp [Builtin.copy_,An (Be he),Builtin.lenOf,kk,hn,B5 hsz,r1,goInt,storeCells]
       ·have ha':a=some ⟨C.φ id,off,none⟩:=ha.resolve_left (by
         intro h0
         rw [h0] at hn
         exact hn (Nat.min_eq_right (Nat.zero_le _)))
        subst ha'
        have c6:off+0+us.length<=arr.size:=by omega
        have hrun:=run_storeCells_at P (C.φ id) off tt us 0 arr C.w h3 c6 (fun v hv'=>Jt r2 kh v hv')
        have fc:=Ur (us:=us) (l:=arr.toList) (o:=off) (by simp; omega)
        have ck:VRs C (cs'++p) (arr.toList.take off++us++arr.toList.drop (off+us.length)):=by
         rw [<- fc,h5]; exact Hn h4 r2
        refine ⟨{ C with w:=C.w.setRow (C.φ id) (arr.toList.take off++us++arr.toList.drop (off+us.length)).toArray,S:=put C.S id ⟨ep,cs'⟩ },?_,Le.of_store ae h1 h2.symm h3 ?_,SR.of_store ae h1 h2.symm h3 ?_ (Adr (by simpa using ck)),rfl,rfl,rfl⟩
        ·simp only [Nat.add_zero] at hrun
         simp [Builtin.copy_,An (Be he),Builtin.lenOf,kk,B5 hsz,r1,goInt,hrun]
        ·have:=Ah ck
         rw [h5,J5] at this
         simp at this ⊢
         omega
        ·have:=Ah ck
         rw [h5,J5] at this
         simp at this ⊢
         omega
     ·simp at h
    ·simp at h
   ·simp at h
  ·simp at h
 ·simp at h
end
end
end Go.Proofs.YthelkgdmgihhiaaGreatDoor
