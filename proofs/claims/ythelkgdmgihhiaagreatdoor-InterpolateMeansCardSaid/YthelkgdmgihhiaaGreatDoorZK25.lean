/- Part 25. -/
import Derived.Test.YthelkgdmgihhiaaGreatDoorZK24
import Derived.RangeFuncRecord
import Derived.RangeFuncOwn
import Derived.RangeFuncCalls
namespace Go.Proofs.YthelkgdmgihhiaaGreatDoor
section
open Go Tryz Go.RowKit Go.Shelf
attribute [local go_sem] Oper.semAt_some
theorem Xn {F:Fence} {n:Nat} (hro:F.round=none) (hfa:∀ f,F.fn f) (hd:∀ k,F.depth.isSome=true->1<=k) {P:Program} {a:Act} {w:World} {g:Operand} {ps:Array Tmp} {assign body:Code} {Q:Exit->Act->World->Prop} (gf:FuncId) (lb:Array Value) (hg:a.eval g=.func (.func gf) #[] lb)
  (eg:∀ args w,(callFunc gf args).run P w=.ok (.enter gf args) w)
  (h:∀ (fn:FuncId) (rec:LoopState->Option Code->Loop),rec=(fun st pe=>{ state:=st,pending:=pe,fn,tmps:=a.tmps,params:=ps,assign,body,defers:=w.heap.size }) ->
   ∀ W1,(w.alloc (.deferred (some []))).alloc (.loop (rec .ready none))=W1 ->
    CallsIn F (n - 1) P gf (#[.func (.yield (w.heap.size+1)) #[] #[]]++lb) W1 (rangePost F n P (w.heap.size+1) Q { a with defers:=[{ target:=.collected w.heap.size,args:=#[] }]++a.defers })) :
  (Code.rangeFunc g ps assign body).wpIn F n P Q a w:=by
 refine wpIn_rangeFunc ?_
 intro fn hfn
 rw [hro]
 obtain ⟨rec,hrec⟩:∃ rec:LoopState->Option Code->Loop,rec=fun st pe=>{ state:=st,pending:=pe,fn,tmps:=a.tmps,params:=ps,assign,body,defers:=w.heap.size }:=⟨_,rfl⟩
 obtain ⟨W1,hW1⟩:∃ W1,(w.alloc (.deferred (some []))).alloc (.loop (rec .ready none))=W1:=⟨_,rfl⟩
 refine ⟨w.heap.size+1,[{ target:=.collected w.heap.size,args:=#[] }],W1,{ target:=.fn (.func gf) lb,args:=#[.func (.yield (w.heap.size+1)) #[] #[]] },W1,gf,
  #[.func (.yield (w.heap.size+1)) #[] #[]]++lb,W1,?_,?_,?_,?_,?_,?_⟩
 ·rw [<- hW1,hrec]; exact run_enterLoop_outer _ _ _ _ _
 ·have e1:(resolve a.eval (rangeCall g (w.heap.size+1)) 0).run P W1=.ok { target:=.fn (.func gf) lb,args:=#[.func (.yield (w.heap.size+1)) #[] #[]] } W1:=by
   simp only [resolve,hg]
   simp [go_sem]
  exact e1
 ·intro f' hf'; exact hfa f'
 ·have e2:(invoke (.fn (.func gf) lb) #[.func (.yield (w.heap.size+1)) #[] #[]]).run P W1=.ok (.enter gf (#[.func (.yield (w.heap.size+1)) #[] #[]]++lb)) W1:=by
   simp [invoke,go_sem,eg]
  exact e2
 ·exact hd _
 ·exact h fn rec hrec W1 hW1
theorem Aae {P:Program} {a:Act} {w:World} {g:Operand} {ps:Array Tmp} {assign body:Code} {Q:Exit->Act->World->Prop} (gf:FuncId) (lb:Array Value) (hg:a.eval g=.func (.func gf) #[] lb)
  (eg:∀ args w,(callFunc gf args).run P w=.ok (.enter gf args) w)
  (h:∀ (fn:FuncId) (rec:LoopState->Option Code->Loop),rec=(fun st pe=>{ state:=st,pending:=pe,fn,tmps:=a.tmps,params:=ps,assign,body,defers:=w.heap.size }) ->
   ∀ W1,(w.alloc (.deferred (some []))).alloc (.loop (rec .ready none))=W1 ->
    CallsIn Fence.wide (3 - 1) P gf (#[.func (.yield (w.heap.size+1)) #[] #[]]++lb) W1 (rangePost Fence.wide 3 P (w.heap.size+1) Q { a with defers:=[{ target:=.collected w.heap.size,args:=#[] }]++a.defers })) :
  (Code.rangeFunc g ps assign body).wpIn Fence.wide 3 P Q a w:=Xn rfl (fun _=>trivial) hdw gf lb hg eg h
structure X3:Prop where
 nodes:∀ p,Ai p->∀ S tk k,cL prog 84 [.agg (predC p)] S tk k=some (.int (Bu p),S,tk,k)
 depth:∀ p,Ai p->∀ S tk k,cL prog 85 [.agg (predC p)] S tk k=some (.int (Bg p),S,tk,k)
 node:∀ p,Ai p->∀ S tk k,cL prog 87 [.agg (predC p)] S tk k=some (.int (Bk p),S,tk,k)
theorem call1 {f:FuncId} {p:PT} {r:Int} {v:Value} {w:World} (hcl:∀ S tk k,cL prog f [.agg (predC p)] S tk k=some (.int r,S,tk,k)) (ht:KTab w) (hv:PV w p v) :
  CallsIn Fence.wide 3 prog f #[v] w fun e w'=>e=.returned (.int .i64 r)/\Below w.heap.size w w':=by
 refine callsIn_wide.2 ((Af9 hcl ht (vs:=#[v]) (by simp only [VRs,and_true]; exact hv)).mono ?_)
 rintro e w' ⟨v,rfl,hb,hr⟩
 simp only [VR] at hr
 exact ⟨by rw [hr],hb⟩
theorem J7 {tmps:Array Value} {W:World} {B:Nat} {v:Int} (hp:tmps[2]?=some (.pointer (some ⟨B,0,none⟩))) (hc:W.cell? ⟨B,0,none⟩=some (.int .i64 v)) :
  (results Tryz.f49 tmps).run prog W=.ok (.int .i64 v) W:=by
 have hr:Tryz.f49.results=#[.cell 2 30]:=rfl
 have hu:=underlying30
 have ha:aggT prog 30=some false:=by kernel_rfl
 simp [results,hr,hp,asAddr,loadVar,Jm ha]
 rw [hc]
set_option maxRecDepth 100000 in
set_option maxHeartbeats 4000000 in
theorem Ab2 (N:X3) (p:PT) (hn:Ai p) (w:World) (v:Value) (ht:KTab w) (hv:PV w p v) :
  CallsIn Fence.wide 3 prog 49 #[v] w fun e w'=>e=.returned (.int .i64 (Bc p))/\Below w.heap.size w w':=by
 obtain ⟨a,cap,rfl⟩:∃ a cap,v=.agg #[.int .i64 p.op,.string p.name,.int .i64 p.n,.slice a p.kids.length cap]:=by
  cases p with
  | node o s n ks=>obtain ⟨a,cap,rfl,-⟩:=Pk hv; exact ⟨a,cap,rfl⟩
 refine callsIn_of_wp_marks func49 rfl trivial ?_ rfl
 simp only [ntmps49,List.size_toArray,List.length_cons,List.length_nil,Nat.reduceAdd,Nat.reduceSub,Array.replicate_succ,Array.replicate_zero,List.push_toArray,List.append_toArray,List.nil_append,List.cons_append]
 obtain ⟨w1,hw1⟩:∃ w1,w1=(w.alloc (.cells #[.int .i64 p.op,.string p.name,.int .i64 p.n,.slice a p.kids.length cap] 36)).alloc (.cells #[.int .i64 0] 30):=⟨_,rfl⟩
 have hb1:Below w.heap.size w w1:=by rw [hw1]; exact ((Below.refl _ w).alloc (Nat.le_refl _) _).alloc (by simp) _
 have hs1:w1.heap.size=w.heap.size+2:=by rw [hw1]; simp
 have hB1:w1.heap[w.heap.size]?=some (.cells #[.int .i64 p.op,.string p.name,.int .i64 p.n,.slice a p.kids.length cap] 36 (0,0)):=by
  rw [hw1,Below.heap_alloc _ _ _ (by simp)]; exact Aa w _
 have hB2:w1.heap[w.heap.size+1]?=some (.cells #[.int .i64 0] 30 (0,0)):=by
  rw [hw1]; have:=Aa (w.alloc (.cells #[.int .i64 p.op,.string p.name,.int .i64 p.n,.slice a p.kids.length cap] 36)) (.cells #[.int .i64 0] 30); rwa [World.size_alloc] at this
 have ht1:KTab w1:=ht.below ht.pos (hb1.mono (by omega))
 have c1:=call1 (N.nodes p hn) ht1 (hv.below hb1)
 have hbox:∀ {W:World},Below w1.heap.size w1 W->W.cell? ⟨w.heap.size,0,none⟩=some (.int .i64 p.op)/\W.cell? ⟨w.heap.size,1,none⟩=some (.string p.name)/\W.cell? ⟨w.heap.size,2,none⟩=some (.int .i64 p.n)/\W.cell? ⟨w.heap.size,3,none⟩=some (.slice a p.kids.length cap):=by
  intro W hb
  have h:=(hb.block w.heap.size (by omega)).trans hB1
  simp [World.cell?,h]
 have hres:∀ {W:World},Below w1.heap.size w1 W->W.cell? ⟨w.heap.size+1,0,none⟩=some (.int .i64 0)/\W.frozen? ⟨w.heap.size+1,0,none⟩=false:=by
  intro W hb
  have h:=(hb.block (w.heap.size+1) (by omega)).trans hB2
  simp [World.cell?,World.frozen?,h]
 obtain ⟨b0,b1',b2,b3⟩:=hbox (Below.refl _ w1)
 gi_wp2_with fail
 rw [<- hw1]
 refine ⟨trivial,(callsIn_wide.2 (callsIn_wide.1 c1)).mono ?_⟩
 clear c1
 rintro e w2 ⟨rfl,hb2⟩
 obtain ⟨d0,d1,d2,d3⟩:=hbox hb2
 obtain ⟨r0,r1⟩:=hres hb2
 have hs2:=hb2.size
 have hn2:∀ {W:World} {u:Value},Below w.heap.size w W->Below w.heap.size w (W.setCell ⟨w.heap.size+1,0,none⟩ u):=fun h=>h.setCell (p:=⟨w.heap.size+1,0,none⟩) (by simp) _
 by_cases h400:400<Bu p
 ·have g1:Bu p > 400:=by omega
  gi_wp2_with fail
  refine ⟨_,J7 rfl (World.cell?_setCell_same' _ _ _ (by rw [r0]; rfl)),?_,hn2 (hb1.trans (hb2.mono (by omega)))⟩
  unfold Bc; rw [if_pos h400]
 have g1:¬ Bu p > 400:=by omega
 have c2:=call1 (N.depth p hn) (ht1.below ht1.pos hb2) ((hv.below hb1).below hb2)
 gi_wp2_with fail
 refine ⟨trivial,(callsIn_wide.2 (callsIn_wide.1 c2)).mono ?_⟩
 clear c2
 rintro e w3 ⟨rfl,hb3⟩
 have hb13:Below w1.heap.size w1 w3:=hb2.trans (hb3.mono hs2)
 obtain ⟨q0,q1,q2,q3⟩:=hbox hb13
 obtain ⟨r0',r1'⟩:=hres hb13
 have hs3:=hb13.size
 by_cases h40:40<Bg p
 ·have g2:Bg p > 40:=by omega
  gi_wp2_with fail
  refine ⟨_,J7 rfl (World.cell?_setCell_same' _ _ _ (by rw [r0']; rfl)),?_,hn2 (hb1.trans (hb13.mono (by omega)))⟩
  unfold Bc; rw [if_neg (by omega),if_pos h40]
 have g2:¬ Bg p > 40:=by omega
 have c3:=Ys w3 (.int .i64 p.op) (.string p.name) (.int .i64 p.n) (.slice a p.kids.length cap) rfl
 gi_wp2_with fail
 refine ⟨trivial,(callsIn_wide.2 (callsIn_wide.1 c3)).mono ?_⟩
 clear c3
 rintro e w4 ⟨rfl,hw4⟩
 have hb34:Below w3.heap.size w3 w4:=by rw [hw4]; exact (Below.refl _ _).alloc (Nat.le_refl _) _
 have hb14:Below w1.heap.size w1 w4:=hb13.trans (hb34.mono hs3)
 have hs4:w3.heap.size<w4.heap.size:=by rw [hw4]; simp
 have hB4:w4.heap[w3.heap.size]?=some (.cells #[.int .i64 p.op,.string p.name,.int .i64 p.n,.slice a p.kids.length cap] 36 (0,0)):=by rw [hw4]; exact Aa _ _
 have hv4:PV w4 p (.agg #[.int .i64 p.op,.string p.name,.int .i64 p.n,.slice a p.kids.length cap]):=(hv.below hb1).below (hb14.mono (Nat.le_refl _))
 have ht4:KTab w4:=ht1.below ht1.pos hb14
 clear hw4
 gi_wp2_with fail
 refine Aae 127 #[.pointer (some ⟨w3.heap.size,0,none⟩)] rfl (enters_of func127 (by kernel_rfl) rfl) ?_
 intro fn rec hrec W1 hW1
 have hL1:W1.heap[w4.heap.size+1]?=some (.loop (rec .ready none)):=by
  rw [<- hW1]; have:=World.alloc_heap_new (w4.alloc (.deferred (some []))) (.loop (rec .ready none)); rwa [World.size_alloc] at this
 have hK1:W1.heap[w4.heap.size]?=some (.deferred (some [])):=by
  rw [<- hW1]; exact (Below.heap_alloc _ _ _ (by simp)).trans (World.alloc_heap_new w4 _)
 have hbW:Below w4.heap.size w4 W1:=by rw [<- hW1]; exact ((Below.refl _ w4).alloc (Nat.le_refl _) _).alloc (by simp) _
 have hsW:w4.heap.size+1<W1.heap.size:=by rw [<- hW1]; simp
 clear hW1
 have hrounds:Qz w4 W1 (w4.heap.size+1) (fun er W'=>W'.heap[w4.heap.size+1]?=some (.loop (rec .done (some .ret)))/\W'.heap[w4.heap.size]?=some (.deferred (some []))/\W'.cell? ⟨w.heap.size+1,0,none⟩=some (.int .i64 er)/\Below w.heap.size w W'):=by
  intro W q v hnq hB hvq
  have hl:W.heap[w4.heap.size+1]?=some (.loop (rec .ready none)):=(hB.block _ (by omega)).trans hL1
  have hk:W.heap[w4.heap.size]?=some (.deferred (some [])):=(hB.block _ (by omega)).trans hK1
  have hy:=run_yield (P:=prog) (args:=#[v]) hl (by rw [hrec]; rfl)
  rw [hrec] at hy
  refine ⟨fn,_,_,_,hy,roundIn_of_wpIn trivial ?_⟩
  obtain ⟨a2,n2,c2,rfl⟩:∃ a2 n2 c2,v=.agg #[.int .i64 q.op,.string q.name,.int .i64 q.n,.slice a2 n2 c2]:=by
   cases q with
   | node o s n ks=>obtain ⟨a,cap,rfl,-⟩:=Pk hvq; exact ⟨a,_,cap,rfl⟩
  have hsW2:=hB.size
  have hlt:w4.heap.size+1<W.heap.size:=by omega
  gi_wp2_with fail
  have hl':(W.alloc (.cells #[.int .i64 q.op,.string q.name,.int .i64 q.n,.slice a2 n2 c2] 36)).heap[w4.heap.size+1]?=some (.loop (rec .ready none)):=(Below.heap_alloc _ _ _ hlt).trans hl
  refine ⟨_,run_beginRound hl' (by rw [hrec]),?_⟩
  obtain ⟨Wb,hWb⟩:∃ Wb,Wb=(W.alloc (.cells #[.int .i64 q.op,.string q.name,.int .i64 q.n,.slice a2 n2 c2] 36)).putObj (w4.heap.size+1) (.loop { rec .ready none with state:=.busy }):=⟨_,rfl⟩
  rw [<- hWb]
  have hsb:W.heap.size<Wb.heap.size:=by rw [hWb]; simp
  have hob:∀ k,k≠w4.heap.size+1->k<W.heap.size->Wb.heap[k]?=W.heap[k]?:=fun k hk hkl=>by
   rw [hWb,World.putObj_heap_other hk]; exact Below.heap_alloc _ _ _ hkl
  have hlb:Wb.heap[w4.heap.size+1]?=some (.loop { rec .ready none with state:=.busy }):=by
   rw [hWb]; exact World.putObj_heap_same (by simp; omega)
  have hbb:Wb.heap[W.heap.size]?=some (.cells #[.int .i64 q.op,.string q.name,.int .i64 q.n,.slice a2 n2 c2] 36 (0,0)):=by
   rw [hWb,World.putObj_heap_other (by omega)]; exact Aa _ _
  have hos:Wb.os=W.os/\Wb.tape=W.tape/\Wb.output=W.output:=by rw [hWb]; exact ⟨rfl,rfl,rfl⟩
  clear hWb
  have hb4b:Below w4.heap.size w4 Wb:=by
   have h1:Below w4.heap.size w4 W:=hbW.trans (hB.mono (by omega))
   exact ⟨hos.1.trans h1.os,hos.2.1.trans h1.tape,hos.2.2.trans h1.output,by omega,fun k hk=>(hob k (by omega) (by omega)).trans (h1.block k hk)⟩
  have cn:=call1 (N.node q hnq) (ht4.below ht4.pos hb4b) (hvq.below hb4b)
  have e0:Wb.cell? ⟨W.heap.size,0,none⟩=some (.int .i64 q.op):=by simp [World.cell?,hbb]
  have e1:Wb.cell? ⟨W.heap.size,1,none⟩=some (.string q.name):=by simp [World.cell?,hbb]
  have e2:Wb.cell? ⟨W.heap.size,2,none⟩=some (.int .i64 q.n):=by simp [World.cell?,hbb]
  have e3:Wb.cell? ⟨W.heap.size,3,none⟩=some (.slice a2 n2 c2):=by simp [World.cell?,hbb]
  clear hy hbb hl'
  gi_wp2_with fail
  refine ⟨trivial,(CallsIn.inRound (w4.heap.size+1) (callsIn_wide.2 (callsIn_wide.1 cn))).mono ?_⟩
  clear cn
  rintro e w5 ⟨rfl,hb5⟩
  have hs5:=hb5.size
  have hl5:w5.heap[w4.heap.size+1]?=some (.loop { rec .ready none with state:=.busy }):=(hb5.block _ (by omega)).trans hlb
  have hb45:Below w4.heap.size w4 w5:=hb4b.trans (hb5.mono (by omega))
  obtain ⟨z0,z1⟩:=hres (hb14.trans (hb45.mono (Nat.le_trans hb14.size (Nat.le_refl _))))
  by_cases hq0:Bk q=0
  ·have g3:¬ (Bk q≠0):=by omega
   gi_wp2_with fail
   refine ⟨_,_,run_endRound none hl5,.inl ⟨hq0,rfl,?_⟩⟩
   obtain ⟨W6,hW6⟩:∃ W6,W6=w5.putObj (w4.heap.size+1) (.loop { ({ rec .ready none with state:=.busy } : Loop) with state:=if (none:Option Code).isNone then .ready else .done,pending:=none }):=⟨_,rfl⟩
   rw [<- hW6]
   have h6s:W6.heap.size=w5.heap.size:=by rw [hW6]; simp
   have h6o:∀ k,k≠w4.heap.size+1->W6.heap[k]?=w5.heap[k]?:=fun k hk=>by rw [hW6,World.putObj_heap_other hk]
   have h6l:W6.heap[w4.heap.size+1]?=some (.loop (rec .ready none)):=by
    rw [hW6,World.putObj_heap_same (by omega),hrec]; rfl
   have h6e:W6.os=w5.os/\W6.tape=w5.tape/\W6.output=w5.output:=by rw [hW6]; exact ⟨rfl,rfl,rfl⟩
   clear hW6
   refine ⟨h6e.1.trans (hb5.os.trans hos.1),h6e.2.1.trans (hb5.tape.trans hos.2.1),h6e.2.2.trans (hb5.output.trans hos.2.2),by omega,fun k hk=>?_⟩
   by_cases hkl:k=w4.heap.size+1
   ·rw [hkl,h6l,hl]
   ·rw [h6o k hkl,hb5.block k (by omega),hob k hkl hk]
  ·gi_wp2_with fail
   have hls:(w5.setCell ⟨w.heap.size+1,0,none⟩ (.int .i64 (Bk q))).heap[w4.heap.size+1]?=some (.loop { rec .ready none with state:=.busy }):=by
    rw [<- hl5]; exact Below.heap_setCell _ _ _ _ (by simp; omega)
   refine ⟨_,_,run_endRound (some .ret) hls,.inr ⟨hq0,rfl,?_,?_,?_,?_⟩⟩
   ·rw [World.putObj_heap_same (by rw [World.size_setCell]; omega),hrec]; rfl
   ·rw [World.putObj_heap_other (by omega),Below.heap_setCell _ _ _ _ (by simp; omega),hb5.block _ (by omega),hob _ (by omega) (by omega),hk]
   ·have h0:(w5.setCell ⟨w.heap.size+1,0,none⟩ (.int .i64 (Bk q))).cell? ⟨w.heap.size+1,0,none⟩=some (.int .i64 (Bk q)):=World.cell?_setCell_same' _ _ _ (by rw [z0]; rfl)
    rw [<- h0]
    unfold World.cell?
    rw [World.putObj_heap_other (by simp; omega)]
   ·have h1:Below w.heap.size w (w5.setCell ⟨w.heap.size+1,0,none⟩ (.int .i64 (Bk q))):=hn2 (hb1.trans ((hb14.trans (hb45.mono hb14.size)).mono (by omega)))
    refine ⟨h1.os,h1.tape,h1.output,by rw [World.putObj_size]; exact h1.size,fun k hk=>?_⟩
    rw [World.putObj_heap_other (by omega)]; exact h1.block k hk
 refine ((callsIn_wide.2 (callsIn_wide.1 (Wt (wp:=w4) (w0:=W1) hbW hrounds p hn W1 (.int .i64 p.op) (.string p.name) (.int .i64 p.n) (.slice a p.kids.length cap) (Below.refl _ _) hv4 w3.heap.size ?_ ?_ ?_ ?_)))).mono ?_
 ·have:=(hbW.block w3.heap.size (by omega)).trans hB4; simp [World.cell?,this]
 ·have:=(hbW.block w3.heap.size (by omega)).trans hB4; simp [World.cell?,this]
 ·have:=(hbW.block w3.heap.size (by omega)).trans hB4; simp [World.cell?,this]
 ·have:=(hbW.block w3.heap.size (by omega)).trans hB4; simp [World.cell?,this]
 rintro e W7 ⟨⟨v7,rfl⟩,(⟨hf0,hb7⟩|⟨hf0,hl7,hk7,hc7,hb7⟩)⟩
 ·have hl7:W7.heap[w4.heap.size+1]?=some (.loop (rec .ready none)):=(hb7.block _ (by omega)).trans hL1
  have hk7:W7.heap[w4.heap.size]?=some (.deferred (some [])):=(hb7.block _ (by omega)).trans hK1
  refine ⟨_,_,run_endLoop hl7 (by rw [hrec]; simp),?_⟩
  rw [show (rec .ready none).pending=none by rw [hrec]]
  dsimp only
  obtain ⟨W8,hW8⟩:∃ W8,W8=W7.putObj (w4.heap.size+1) (.loop { (rec .ready none) with state:=.exhausted,pending:=none }):=⟨_,rfl⟩
  rw [<- hW8]
  have h8o:∀ k,k≠w4.heap.size+1->W8.heap[k]?=W7.heap[k]?:=fun k hk=>by rw [hW8,World.putObj_heap_other hk]
  have h8e:W8.os=W7.os/\W8.tape=W7.tape/\W8.output=W7.output/\W8.heap.size=W7.heap.size:=by rw [hW8]; exact ⟨rfl,rfl,rfl,World.putObj_size⟩
  clear hW8
  have hk8:=(h8o w4.heap.size (by omega)).trans hk7
  have hb47:Below w4.heap.size w4 W7:=hbW.trans (hb7.mono (by omega))
  have hb48:Below w4.heap.size w4 W8:=⟨h8e.1.trans hb47.os,h8e.2.1.trans hb47.tape,h8e.2.2.1.trans hb47.output,by rw [h8e.2.2.2]; exact hb47.size,fun k hk=>(h8o k (by omega)).trans (hb47.block k hk)⟩
  have hb18:Below w1.heap.size w1 W8:=hb14.trans (hb48.mono hb14.size)
  obtain ⟨z0,z1⟩:=hres hb18
  have hz8:=hb48.size
  gi_wp2_with fail
  have hk9:(W8.setCell ⟨w.heap.size+1,0,none⟩ (.int .i64 0)).heap[w4.heap.size]?=some (.deferred (some [])):=by
   rw [<- hk8]; exact Below.heap_setCell _ _ _ _ (by simp; omega)
  have hc9:(W8.setCell ⟨w.heap.size+1,0,none⟩ (.int .i64 0)).cell? ⟨w.heap.size+1,0,none⟩=some (.int .i64 0):=World.cell?_setCell_same' _ _ _ (by rw [z0]; rfl)
  have hb9:Below w.heap.size w (W8.setCell ⟨w.heap.size+1,0,none⟩ (.int .i64 0)):=hn2 (hb1.trans (hb18.mono (by omega)))
  refine ⟨by simp,.inl ⟨_,_,rfl,run_takeDeferred hk9,⟨_,J7 (v:=0) rfl ?_,?_,?_⟩⟩⟩
  ·rw [<- hc9]; unfold World.cell?; rw [World.putObj_heap_other (by simp; omega)]
  ·unfold Bc; rw [if_neg (by omega),if_neg (by omega),hf0]
  ·refine ⟨hb9.os,hb9.tape,hb9.output,by rw [World.putObj_size]; exact hb9.size,fun k hk=>?_⟩
   rw [World.putObj_heap_other (by omega)]; exact hb9.block k hk
 ·refine ⟨_,_,run_endLoop hl7 (by rw [hrec]; simp),?_⟩
  rw [show (rec .done (some .ret)).pending=some .ret by rw [hrec]]
  dsimp only
  obtain ⟨W8,hW8⟩:∃ W8,W8=W7.putObj (w4.heap.size+1) (.loop { (rec .done (some .ret)) with state:=.exhausted,pending:=some .ret }):=⟨_,rfl⟩
  rw [<- hW8]
  have h8o:∀ k,k≠w4.heap.size+1->W8.heap[k]?=W7.heap[k]?:=fun k hk=>by rw [hW8,World.putObj_heap_other hk]
  have h8e:W8.os=W7.os/\W8.tape=W7.tape/\W8.output=W7.output/\W8.heap.size=W7.heap.size:=by rw [hW8]; exact ⟨rfl,rfl,rfl,World.putObj_size⟩
  clear hW8
  have hk8:=(h8o w4.heap.size (by omega)).trans hk7
  have hb18:Below w.heap.size w W8:=⟨h8e.1.trans hb7.os,h8e.2.1.trans hb7.tape,h8e.2.2.1.trans hb7.output,by rw [h8e.2.2.2]; exact hb7.size,fun k hk=>(h8o k (by omega)).trans (hb7.block k hk)⟩
  have hc8:W8.cell? ⟨w.heap.size+1,0,none⟩=some (.int .i64 (Ba p)):=by
   rw [<- hc7]; unfold World.cell?; rw [h8o _ (by simp; omega)]
  gi_wp2_with fail
  refine ⟨by simp,.inl ⟨_,_,rfl,run_takeDeferred hk8,⟨_,J7 (v:=Ba p) rfl ?_,?_,?_⟩⟩⟩
  ·rw [<- hc8]; unfold World.cell?; rw [World.putObj_heap_other (by simp; omega)]
  ·unfold Bc; rw [if_neg (by omega),if_neg (by omega)]
  ·refine ⟨hb18.os,hb18.tape,hb18.output,by rw [World.putObj_size]; exact hb18.size,fun k hk=>?_⟩
   rw [World.putObj_heap_other (by omega)]; exact hb18.block k hk
end
section
open Go Tryz
section
variable (S:List Ent) (tk:List Nat) (k:Nat)
theorem Gp (b:UInt8):cL prog 195 [.prim (.int .u8 b.toNat)] S tk k=some (.bool (Bm b),S,tk,k):=by
 refine opP func195 ntmps195 ?_
 simp +contextual only [ev0,simprocAttr,AV.int,AV.bool,AV.str,results195]
 rw [show decide ((97:Int)<=(b.toNat:Int))=decide (97<=b.toNat) from decide_eq_decide.2 (by omega),show decide ((b.toNat:Int)<=(122:Int))=decide (b.toNat<=122) from decide_eq_decide.2 (by omega)]
 unfold Bm
 cases decide (97<=b.toNat) <;> simp
theorem Jy (b:UInt8):cL prog 198 [.prim (.int .u8 b.toNat)] S tk k=some (.bool (capB b),S,tk,k):=by
 refine opP func198 ntmps198 ?_
 simp +contextual only [ev0,simprocAttr,AV.int,AV.bool,AV.str,results198]
 rw [show decide ((65:Int)<=(b.toNat:Int))=decide (65<=b.toNat) from decide_eq_decide.2 (by omega),show decide ((b.toNat:Int)<=(90:Int))=decide (b.toNat<=90) from decide_eq_decide.2 (by omega)]
 unfold capB
 cases decide (65<=b.toNat) <;> simp
theorem Jj (b:UInt8):cL prog 197 [.prim (.int .u8 b.toNat)] S tk k=some (.bool (digB b),S,tk,k):=by
 refine opP func197 ntmps197 ?_
 simp +contextual only [ev0,simprocAttr,AV.int,AV.bool,AV.str,results197]
 rw [show decide ((48:Int)<=(b.toNat:Int))=decide (48<=b.toNat) from decide_eq_decide.2 (by omega),show decide ((b.toNat:Int)<=(57:Int))=decide (b.toNat<=57) from decide_eq_decide.2 (by omega)]
 unfold digB
 cases decide (48<=b.toNat) <;> simp
theorem Gn (s:ByteArray):cL prog 166 [.str s] S tk k=some (.bool (B2 s),S,tk,k):=by
 refine opP func166 ntmps166 ?_
 simp +contextual only [ev0,simprocAttr,AV.int,AV.bool,AV.str,results166]
 rw [show decide ((s.size:Int) >= 1)=decide (1<=s.size) from decide_eq_decide.2 (by omega),show decide ((s.size:Int)<=(24:Int))=decide (s.size<=24) from decide_eq_decide.2 (by omega)]
 unfold B2
 cases decide (1<=s.size) <;> simp
theorem Dn (s:ByteArray) (hs:s.size<=1048576):cL prog 167 [.str s] S tk k=some (.bool ((bsL s).all alnB),S,tk,k):=by
 refine opP func167 ntmps167 ?_
 simp (maxSteps:=10^6)+contextual(disch:=try exact dqd)only[ev2,simprocAttr,AV.int,AV.bool,AV.str,results167]
 refine loop1 (P:=prog) (fun x st=>st.T.length=29/\(x<=s.size)/\((bsL s).all alnB=((bsL s).drop x).all alnB)/\getT st.T 0=.str s/\getT st.T 3=.int (x:Nat)/\st.S=[]) (fun x=>s.size - x) (fun x=>.bool ((bsL s).all alnB)) (0) ?_ ?_
 case refine_2=>exact ⟨rfl,Nat.zero_le _,rfl,rfl,rfl,rfl⟩
 rintro i ⟨T,S',tk',n'⟩ ⟨hl,hi,hA,e0,e3,eS⟩ IH
 subst eS
 obtain ⟨g,hg,hT⟩:=A4 hl
 rw [hg] at e0 e3
 subst hT
 clear hg hl
 by_cases la:i<s.size
 ·have d1:decide ((i:Int)<(s.size:Int))=true:=by simpa using la
  obtain ⟨b,hb⟩:=Ki la
  have aw:=sIx hb
  have hw:=A0 (i:=i) (by omega)
  rw [Al hb] at hA
  simp only [List.all_cons,alnB] at hA
  have n1 S tk k:=Gp S tk k b
  have n2 S tk k:=Jy S tk k b
  have n3 S tk k:=Jj S tk k b
  cases q1:Bm b <;> cases q2:capB b <;> cases q3:digB b <;> simp only [q1,q2,q3,Bool.or_true,Bool.true_or,Bool.or_false,Bool.false_and,Bool.true_and] at n1 n2 n3 hA
  case false.false.false =>
   simp (maxSteps:=10^6)+contextual(disch:=try exact dqd)only[ev2,simprocAttr,AV.int,AV.bool,AV.str,results167,e0,e3,d1,aw,hw,n1,n2,n3]
   rw [hA]
  all_goals
   simp (maxSteps:=10^6)+contextual(disch:=try exact dqd)only[ev2,simprocAttr,AV.int,AV.bool,AV.str,results167,e0,e3,d1,aw,hw,n1,n2,n3]
   exact IH (i+1) _ (by omega) ⟨rfl,by omega,hA,rfl,rfl,rfl⟩
 ·have d1:decide ((i:Int)<(s.size:Int))=false:=by simpa using la
  have he:i=s.size:=by omega
  simp (maxSteps:=10^6)+contextual(disch:=try exact dqd)only[ev2,simprocAttr,AV.int,AV.bool,AV.str,results167,e0,e3,d1]
  rw [hA,he,<- Df,List.drop_length]; rfl
def Ac8 (i:Nat) (l:List UInt8):Bool:=if i=0 then M2 l else l.all lowB
theorem N3 (s:ByteArray) (hs:s.size<=1048576):cL prog 168 [.str s] S tk k=some (.bool (M2 (bsL s)),S,tk,k):=by
 generalize hR:M2 (bsL s)=R
 refine opP func168 ntmps168 ?_
 simp (maxSteps:=10^6)+contextual(disch:=try exact dqd)only[ev2,simprocAttr,AV.int,AV.bool,AV.str,results168]
 refine loop1 (P:=prog) (fun x st=>st.T.length=32/\(x<=s.size)/\(R=Ac8 x ((bsL s).drop x))/\getT st.T 0=.str s/\getT st.T 3=.int (x:Nat)/\st.S=[]) (fun x=>s.size - x) (fun x=>.bool R) (0) ?_ ?_
 case refine_2=>exact ⟨rfl,Nat.zero_le _,hR.symm,rfl,rfl,rfl⟩
 rintro i ⟨T,S',tk',n'⟩ ⟨hl,hi,hA,e0,e3,eS⟩ IH
 subst eS
 obtain ⟨g,hg,hT⟩:=A4 hl
 rw [hg] at e0 e3
 subst hT
 clear hg hl
 by_cases la:i<s.size
 ·have d1:decide ((i:Int)<(s.size:Int))=true:=by simpa using la
  obtain ⟨b,hb⟩:=Ki la
  have aw:=sIx hb
  have hw:=A0 (i:=i) (by omega)
  rw [Al hb] at hA
  have n1 S tk k:=Gp S tk k b
  have n3 S tk k:=Jj S tk k b
  have e95:(((b.toNat:Nat):Int) != 95)=!decide (b.toNat=95):=by
   by_cases h:b.toNat=95 <;> simp [h] <;> omega
  rcases i with _|j
  ·simp only [Ac8,if_true,M2] at hA
   have d2:((((0:Nat):Int)) == 0)=true:=rfl
   have d0:decide ((0:Int)<(s.size:Int))=true:=by simp; omega
   cases q1:Bm b <;> simp only [q1,Bool.false_and,Bool.true_and] at n1 hA
   ·simp (maxSteps:=10^6)+contextual(disch:=try exact dqd)only[ev2,simprocAttr,AV.int,AV.bool,AV.str,results168,e0,e3,d0,d1,aw,hw,n1,n3,d2]
    rw [hA]
   ·simp (maxSteps:=10^6)+contextual(disch:=try exact dqd)only[ev2,simprocAttr,AV.int,AV.bool,AV.str,results168,e0,e3,d0,d1,aw,hw,n1,n3,d2]
    refine IH 1 _ (by omega) ⟨rfl,by omega,?_,rfl,rfl,rfl⟩
    rw [hA]; rfl
  ·have d2:((((j+1:Nat):Int)) == 0)=false:=by simp; omega
   simp only [Ac8,Nat.add_eq_zero_iff,Nat.one_ne_zero,and_false,if_false,List.all_cons,lowB] at hA
   cases q1:Bm b <;> cases q3:digB b <;> cases q2:decide (b.toNat=95) <;> simp only [q1,q2,q3,Bool.or_true,Bool.true_or,Bool.or_false,Bool.false_and,Bool.true_and,Bool.not_true,Bool.not_false] at n1 n3 e95 hA
   case false.false.false =>
    simp (maxSteps:=10^6)+contextual(disch:=try exact dqd)only[ev2,simprocAttr,AV.int,AV.bool,AV.str,results168,e0,e3,d1,aw,hw,n1,n3,d2,e95]
    rw [hA]
   all_goals
    simp (maxSteps:=10^6)+contextual(disch:=try exact dqd)only[ev2,simprocAttr,AV.int,AV.bool,AV.str,results168,e0,e3,d1,aw,hw,n1,n3,d2,e95]
    refine IH (j+1+1) _ (by omega) ⟨rfl,by omega,?_,rfl,rfl,rfl⟩
    rw [hA]; rfl
 ·have d1:decide ((i:Int)<(s.size:Int))=false:=by simpa using la
  have he:i=s.size:=by omega
  simp (maxSteps:=10^6)+contextual(disch:=try exact dqd)only[ev2,simprocAttr,AV.int,AV.bool,AV.str,results168,e0,e3,d1]
  rw [hA,he,<- Df,List.drop_length]
  unfold Ac8 M2
  split <;> rfl
theorem Xe (s:ByteArray):cL prog 164 [.str s] S tk k=some (.bool (Ei s),S,tk,k):=by
 refine opP func164 ntmps164 ?_
 have c1 S tk k:=Gn S tk k s
 have c2 S tk k:=P6 S tk k s
 cases hz:B2 s with
 | false =>
  rw [hz] at c1
  simp (maxSteps:=10^6)+contextual(disch:=try exact dqd)only[ev2,simprocAttr,AV.int,AV.bool,AV.str,results164,c1,c2]
  simp [Ei,hz]
 | true =>
  have hsz:1<=s.size/\s.size<=24:=by simpa [B2] using hz
  obtain ⟨b,hb⟩:=Ki (show 0<s.size by omega)
  have aw:=sIx hb
  have c3 S tk k:=Gp S tk k b
  rw [hz] at c1
  have hN:Ei s=(Bm b && !kwF s && (bsL s).all lowB):=by simp [Ei,hz,P3 hb]
  cases hq:Bm b with
  | false =>
   rw [hq] at c3 hN
   simp (maxSteps:=10^6)+contextual(disch:=try exact dqd)only[ev2,simprocAttr,AV.int,AV.bool,AV.str,results164,c1,c2,c3,aw]
   rw [hN]; rfl
  | true =>
   rw [hq] at c3 hN
   cases hk:kwF s with
   | true =>
    rw [hk] at c2 hN
    simp (maxSteps:=10^6)+contextual(disch:=try exact dqd)only[ev2,simprocAttr,AV.int,AV.bool,AV.str,results164,c1,c2,c3,aw]
    rw [hN]; rfl
   | false =>
    rw [hk] at c2 hN
    simp (maxSteps:=10^6)+contextual(disch:=try exact dqd)only[ev2,simprocAttr,AV.int,AV.bool,AV.str,results164,c1,c2,c3,aw]
    have lg:Ei s=((bsL s).drop 1).all lowB:=by
     rw [hN]
     have:(bsL s)=b :: (bsL s).drop 1:=by simpa using Al hb
     rw [this]; simp [lowB,hq]
    clear aw c1 c2 c3 hN hb
    refine loop1 (P:=prog) (fun x st=>st.T.length=41/\(1<=x)/\(x<=s.size)/\(Ei s=((bsL s).drop x).all lowB)/\getT st.T 0=.str s/\getT st.T 3=.int (x:Nat)/\st.S=[]) (fun x=>s.size - x) (fun x=>.bool (Ei s)) (1) ?_ ?_
    case refine_2=>exact ⟨rfl,Nat.le_refl _,hsz.1,lg,rfl,rfl,rfl⟩
    rintro i ⟨T,S',tk',n'⟩ ⟨hl,h1,hi,hA,e0,e3,eS⟩ IH
    subst eS
    obtain ⟨g,hg,hT⟩:=A4 hl
    rw [hg] at e0 e3
    subst hT
    clear hg hl
    by_cases la:i<s.size
    ·have d1:decide ((i:Int)<(s.size:Int))=true:=by simpa using la
     obtain ⟨b,hb⟩:=Ki la
     have aw:=sIx hb
     have hw:=A0 (i:=i) (by omega)
     rw [Al hb] at hA
     have n1 S tk k:=Gp S tk k b
     have n3 S tk k:=Jj S tk k b
     have e95:(((b.toNat:Nat):Int) != 95)=!decide (b.toNat=95):=by
      by_cases h:b.toNat=95 <;> simp [h] <;> omega
     simp only [List.all_cons,lowB] at hA
     cases q1:Bm b <;> cases q3:digB b <;> cases q2:decide (b.toNat=95) <;> simp only [q1,q2,q3,Bool.or_true,Bool.true_or,Bool.or_false,Bool.false_and,Bool.true_and,Bool.not_true,Bool.not_false] at n1 n3 e95 hA
     case false.false.false =>
      simp (maxSteps:=10^6)+contextual(disch:=try exact dqd)only[ev2,simprocAttr,AV.int,AV.bool,AV.str,results164,e0,e3,d1,aw,hw,n1,n3,e95]
      rw [hA]
     all_goals
      simp (maxSteps:=10^6)+contextual(disch:=try exact dqd)only[ev2,simprocAttr,AV.int,AV.bool,AV.str,results164,e0,e3,d1,aw,hw,n1,n3,e95]
      exact IH (i+1) _ (by omega) ⟨rfl,by omega,by omega,hA,rfl,rfl,rfl⟩
    ·have d1:decide ((i:Int)<(s.size:Int))=false:=by simpa using la
     have he:i=s.size:=by omega
     simp (maxSteps:=10^6)+contextual(disch:=try exact dqd)only[ev2,simprocAttr,AV.int,AV.bool,AV.str,results164,e0,e3,d1]
     rw [hA,he,<- Df,List.drop_length]; rfl
end
end
end Go.Proofs.YthelkgdmgihhiaaGreatDoor
