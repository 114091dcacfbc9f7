/- Part 19. -/
import Derived.Test.YtcandeobhlfkbaaGreatZM18
import Derived.RangeFuncRecord
import Derived.RangeFuncOwn
import Derived.RangeFuncCalls
namespace Go.Proofs.YtcandeobhlfkbaaGreat
section
open Go Tryz Go.RowKit Go.Shelf
attribute [local go_sem] Oper.semAt_some
variable {A:Nat->Nat->Prop}
theorem Aek {F:Fence} {n:Nat} (hro:F.round=none) (hfa:∀ f,F.fn f) (hd:∀ k,F.depth.isSome=true->1<=k) {P:Program} {a:Act} {w:World} {g:Operand} {ps:Array Tmp} {assign body:Code} {Q:Exit->Act->World->Prop} (gf:FuncId) (lb:Array Value) (hg:a.eval g=.func (.func gf) #[] lb)
  (eg:∀ args w,(callFunc gf args).run P w=.ok (.enter gf args) w)
  (h:∀ (fn:FuncId) (rec:LoopState->Option Code->Loop),rec=(fun st pe=>{ state:=st,pending:=pe,fn,tmps:=a.tmps,params:=ps,assign,body,defers:=w.heap.size }) ->
   ∀ W1,(w.alloc (.deferred (some []))).alloc (.loop (rec .ready none))=W1 ->
    CallsIn F (n - 1) P gf (#[.func (.yield (w.heap.size+1)) #[] #[]]++lb) W1 (rangePost F n P (w.heap.size+1) Q { a with defers:=[{ target:=.collected w.heap.size,args:=#[] }]++a.defers })) :
  (Code.rangeFunc g ps assign body).wpIn F n P Q a w:=by
 refine wpIn_rangeFunc ?_
 intro fn hfn
 rw [hro]
 obtain ⟨rec,hrec⟩:∃ rec:LoopState->Option Code->Loop,rec=fun st pe=>{ state:=st,pending:=pe,fn,tmps:=a.tmps,params:=ps,assign,body,defers:=w.heap.size }:=⟨_,rfl⟩
 obtain ⟨W1,hW1⟩:∃ W1,(w.alloc (.deferred (some []))).alloc (.loop (rec .ready none))=W1:=⟨_,rfl⟩
 refine ⟨w.heap.size+1,[{ target:=.collected w.heap.size,args:=#[] }],W1,{ target:=.fn (.func gf) lb,args:=#[.func (.yield (w.heap.size+1)) #[] #[]] },W1,gf,
  #[.func (.yield (w.heap.size+1)) #[] #[]]++lb,W1,?_,?_,?_,?_,?_,?_⟩
 ·rw [<- hW1,hrec]; exact run_enterLoop_outer _ _ _ _ _
 ·have e1:(resolve a.eval (rangeCall g (w.heap.size+1)) 0).run P W1=.ok { target:=.fn (.func gf) lb,args:=#[.func (.yield (w.heap.size+1)) #[] #[]] } W1:=by
   simp only [resolve,hg]
   simp [go_sem]
  exact e1
 ·intro f' hf'; exact hfa f'
 ·have e2:(invoke (.fn (.func gf) lb) #[.func (.yield (w.heap.size+1)) #[] #[]]).run P W1=.ok (.enter gf (#[.func (.yield (w.heap.size+1)) #[] #[]]++lb)) W1:=by
   simp [invoke,go_sem,eg]
  exact e2
 ·exact hd _
 ·exact h fn rec hrec W1 hW1
def mk (r:Nat):Deferred:={ target:=.collected r,args:=#[] }
theorem Qw {n:Nat} {P:Program} {fn:Func} {tmps:Array Value} {R:Ending->World->Prop} : ∀ (ds:List Nat) (W:World),ds.Nodup->(∀ r ∈ ds,W.heap[r]?=some (.deferred (some []))) ->
  (∀ W':World,W'.heap.size=W.heap.size->W'.os=W.os->W'.tape=W.tape->W'.output=W.output->(∀ k,k ∉ ds->W'.heap[k]?=W.heap[k]?)->∃ v,(results fn tmps).run P W'=.ok v W'/\R (.returned v) W') ->
  LeavesInM Fence.wide n P fn tmps R (ds.map mk) .returning W
 | [],W,_,_,h=>h W rfl rfl rfl rfl fun _ _=>rfl
 | r :: ds,W,hnd,hd,h=>by
  obtain ⟨h1,h2⟩:=List.nodup_cons.1 hnd
  have hr:=hd r (by simp)
  refine ⟨by simp,.inl ⟨r,_,rfl,run_takeDeferred hr,Qw ds _ h2 (fun k hk=>?_) fun W' g1 g2 g3 g4 g5=>h W' (by rw [g1,World.putObj_size]) g2 g3 g4 fun k hk=>?_⟩⟩
  ·rw [World.putObj_heap_other (fun e=>h1 (by rw [<- e]; exact hk))]; exact hd k (by simp [hk])
  ·simp only [List.mem_cons,not_or] at hk
   rw [g5 k hk.2,World.putObj_heap_other hk.1]
theorem Tt:∀ (p:Pt) (u:Value),u ∈ K3 p->(∃ s,u=.string s)\/∃ n,u=.int .i64 n
 | [],u,h=>by simp [K3] at h
 | c :: r,u,h=>by
  simp only [K3,List.mem_cons] at h
  rcases h with rfl|rfl|h
  ·exact .inl ⟨_,rfl⟩
  ·exact .inr ⟨_,rfl⟩
  ·exact Tt r u h
theorem lit40 {T:List Value} (h:T.length=40):∃ x0 x1 x2 x3 x4 x5 x6 x7 x8 x9 x10 x11 x12 x13 x14 x15 x16 x17 x18 x19 x20 x21 x22 x23 x24 x25 x26 x27 x28 x29 x30 x31 x32 x33 x34 x35 x36 x37 x38 x39,T=[x0,x1,x2,x3,x4,x5,x6,x7,x8,x9,x10,x11,x12,x13,x14,x15,x16,x17,x18,x19,x20,x21,x22,x23,x24,x25,x26,x27,x28,x29,x30,x31,x32,x33,x34,x35,x36,x37,x38,x39]:=by
 match T,h with
 | x0 :: x1 :: x2 :: x3 :: x4 :: x5 :: x6 :: x7 :: x8 :: x9 :: x10 :: x11 :: x12 :: x13 :: x14 :: x15 :: x16 :: x17 :: x18 :: x19 :: x20 :: x21 :: x22 :: x23 :: x24 :: x25 :: x26 :: x27 :: x28 :: x29 :: x30 :: x31 :: x32 :: x33 :: x34 :: x35 :: x36 :: x37 :: x38 :: x39 :: [],_=>exact ⟨x0,x1,x2,x3,x4,x5,x6,x7,x8,x9,x10,x11,x12,x13,x14,x15,x16,x17,x18,x19,x20,x21,x22,x23,x24,x25,x26,x27,x28,x29,x30,x31,x32,x33,x34,x35,x36,x37,x38,x39,rfl⟩
theorem tab40 {t:Array Value} (h:t.size=40):∃ x0 x1 x2 x3 x4 x5 x6 x7 x8 x9 x10 x11 x12 x13 x14 x15 x16 x17 x18 x19 x20 x21 x22 x23 x24 x25 x26 x27 x28 x29 x30 x31 x32 x33 x34 x35 x36 x37 x38 x39,t=#[x0,x1,x2,x3,x4,x5,x6,x7,x8,x9,x10,x11,x12,x13,x14,x15,x16,x17,x18,x19,x20,x21,x22,x23,x24,x25,x26,x27,x28,x29,x30,x31,x32,x33,x34,x35,x36,x37,x38,x39]:=by
 obtain ⟨l⟩:=t
 obtain ⟨x0,x1,x2,x3,x4,x5,x6,x7,x8,x9,x10,x11,x12,x13,x14,x15,x16,x17,x18,x19,x20,x21,x22,x23,x24,x25,x26,x27,x28,x29,x30,x31,x32,x33,x34,x35,x36,x37,x38,x39,e⟩:=lit40 (T:=l) h
 exact ⟨x0,x1,x2,x3,x4,x5,x6,x7,x8,x9,x10,x11,x12,x13,x14,x15,x16,x17,x18,x19,x20,x21,x22,x23,x24,x25,x26,x27,x28,x29,x30,x31,x32,x33,x34,x35,x36,x37,x38,x39,by rw [e]⟩
theorem Vy {tmps:Array Value} {W:World} {B:Nat} {v u:Value} (h4:tmps[4]?=some (.pointer (some ⟨B+1,0,none⟩))) (h5:tmps[5]?=some (.pointer (some ⟨B+2,0,none⟩))) (c4:W.cell? ⟨B+1,0,none⟩=some v) (c5:W.cell? ⟨B+2,0,none⟩=some u) :
  (results Tryz.f7 tmps).run prog W=.ok (.tuple #[v,u]) W:=by
 have hr:Tryz.f7.results=#[.cell 4 26,.cell 5 4]:=rfl
 have ha:aggT prog 26=some false:=by kernel_rfl
 have hb:aggT prog 4=some false:=by kernel_rfl
 simp [results,hr,h4,h5,asAddr,loadVar,Lq ha,Lq hb]
 rw [c4]
 show (match W.cell? _ with|some v=>_|none=>_:Result Value).andThen _=_
 rw [c5]
 rfl
theorem Af9:∀ {cs:List (ByteArray × Int)} {n:Int} {q:Option ByteArray},A0 n q cs=0->(∀ c ∈ cs,c.2.natAbs<=1000000000000)/\n.natAbs<=1000000000000
 | [],n,q,h=>by
  unfold A0 at h
  split at h
  ·rename_i h1; rw [H3] at h1; exact ⟨by simp,by omega⟩
  ·cases h
 | c :: r,n,q,h=>by
  unfold A0 at h
  split at h
  ·cases h
  ·split at h
   ·cases h
   ·rename_i h1 h2
    split at h
    ·cases h
    ·obtain ⟨h3,h4⟩:=Af9 h
     refine ⟨fun d hd=>?_,h4⟩
     rcases List.mem_cons.1 hd with rfl|hd
     ·simp only [Bool.or_eq_true,Bool.not_eq_true',not_or,Bool.not_eq_false,H3] at h2
      omega
     ·exact h3 d hd
theorem Xs:∀ {l:List RowT},Dz l=0->∀ r ∈ l,Bo r.1 r.2.1=0
 | [],_=>fun r hr=>by simp at hr
 | r :: l,h=>by
  unfold Dz at h
  by_cases h0:Bo r.1 r.2.1=0
  ·rw [h0] at h
   simp only [bne_self_eq_false,Bool.false_eq_true,if_false] at h
   intro x hx
   rcases List.mem_cons.1 hx with rfl|hx
   ·exact h0
   ·exact Xs h x hx
  ·rw [if_pos (by simpa using h0)] at h; exact absurd h h0
theorem Aoj {l:List RowT} (h:sysE l=0):Aa2 l:=by
 obtain ⟨h1,h2,-,h3⟩:=Lt h
 have key:∀ r ∈ l,(∀ c ∈ r.1,c.2.natAbs<=1000000000000)/\r.2.1.natAbs<=1000000000000:=fun r hr=>by
  have:=Xs h3 r hr
  unfold Bo at this
  split at this
  ·cases this
  ·exact Af9 this
 exact ⟨h2,h1,fun r hr=>(key r hr).1,fun r hr=>(key r hr).2⟩
theorem Aet (l:List RowT):(A4 l).Pairwise (·≠·):=(G3 (Dh l)).1.imp fun h e=>by subst e; exact Di _ h
set_option maxRecDepth 100000 in
set_option maxHeartbeats 4000000 in
theorem Anw (l:List RowT) (most:Int) (w:World) (a:Option Addr) (cap:Nat) (hA:Gx A w) (hv:VR (Cq A w) (Aj l) (.slice a l.length cap)) :
  CallsIn Fence.wide 4 prog 7 #[.slice a l.length cap,.int .i64 most] w fun e w'=>∃ v,e=.returned (.tuple #[v,.bool (fndF l most).isSome])/\VR (Cq A w') (Aa ((fndF l most).getD [])) v/\Below w.heap.size w w':=by
 refine callsIn_of_wp_marks func7 rfl trivial ?_ rfl
 simp only [ntmps7,List.size_toArray,List.length_cons,List.length_nil,Nat.reduceAdd,Nat.reduceSub,Array.replicate_succ,Array.replicate_zero,List.push_toArray,List.append_toArray,List.nil_append,List.cons_append]
 obtain ⟨w1,hw1⟩:∃ w1,w1=((w.alloc (.cells #[.slice a l.length cap] 22)).alloc (.cells #[.slice none 0 0] 26)).alloc (.cells #[.bool false] 4):=⟨_,rfl⟩
 have hb1:Below w.heap.size w w1:=by rw [hw1]; exact (((Below.refl _ w).alloc (Nat.le_refl _) _).alloc (by simp) _).alloc (by simp; omega) _
 have hs1:w1.heap.size=w.heap.size+3:=by rw [hw1]; simp
 have hB0:w1.heap[w.heap.size]?=some (.cells #[.slice a l.length cap] 22 (0,0)):=by
  rw [hw1,Below.heap_alloc _ _ _ (by simp; omega),Below.heap_alloc _ _ _ (by simp)]; exact Ag w _
 have hB1:w1.heap[w.heap.size+1]?=some (.cells #[.slice none 0 0] 26 (0,0)):=by
  rw [hw1,Below.heap_alloc _ _ _ (by simp)]
  have:=Ag (w.alloc (.cells #[.slice a l.length cap] 22)) (.cells #[.slice none 0 0] 26); rwa [World.size_alloc] at this
 have hB2:w1.heap[w.heap.size+2]?=some (.cells #[.bool false] 4 (0,0)):=by
  rw [hw1]
  have:=Ag ((w.alloc (.cells #[.slice a l.length cap] 22)).alloc (.cells #[.slice none 0 0] 26)) (.cells #[.bool false] 4); rwa [World.size_alloc,World.size_alloc] at this
 have hrd:∀ {W:World},Below w1.heap.size w1 W->W.cell? ⟨w.heap.size,0,none⟩=some (.slice a l.length cap)/\W.cell? ⟨w.heap.size+1,0,none⟩=some (.slice none 0 0)/\W.frozen? ⟨w.heap.size+1,0,none⟩=false/\W.cell? ⟨w.heap.size+2,0,none⟩=some (.bool false)/\W.frozen? ⟨w.heap.size+2,0,none⟩=false:=by
  intro W hb
  have h0:=(hb.block w.heap.size (by omega)).trans hB0
  have h1:=(hb.block (w.heap.size+1) (by omega)).trans hB1
  have h2:=(hb.block (w.heap.size+2) (by omega)).trans hB2
  simp [World.cell?,World.frozen?,h0,h1,h2]
 have hv1:VR (Cq A w1) (Aj l) (.slice a l.length cap):=hv.below0 hb1
 have hC:=Af3 (vs:=#[.slice a l.length cap]) (w:=w1) (hA.le hb1.size) (fun S tk k=>Lb S tk k l) (by simp only [VRs,and_true]; exact hv1)
 obtain ⟨r0,r1,r2,r3,r4⟩:=hrd (Below.refl _ w1)
 gi_wp2_with fail
 rw [<- hw1]
 refine ⟨trivial,(callsIn_wide.2 hC).mono ?_⟩
 clear hC
 rintro e w2 ⟨v2,rfl,hb2,hv2⟩
 simp only [VR] at hv2
 subst hv2
 obtain ⟨d0,d1,d2,d3,d4⟩:=hrd hb2
 have hs2:=hb2.size
 have none_case:∀ (W:World),Below w1.heap.size w1 W->fndF l most=none->∀ (R:Array Value),R[4]?=some (.pointer (some ⟨w.heap.size+1,0,none⟩))->R[5]?=some (.pointer (some ⟨w.heap.size+2,0,none⟩)) ->
   ∃ v,(results Tryz.f7 R).run prog ((W.setCell ⟨w.heap.size+1,0,none⟩ (.slice none 0 0)).setCell ⟨w.heap.size+2,0,none⟩ (.bool false))=.ok v ((W.setCell ⟨w.heap.size+1,0,none⟩ (.slice none 0 0)).setCell ⟨w.heap.size+2,0,none⟩ (.bool false)) /\
    ∃ u,Ending.returned v=.returned (.tuple #[u,.bool (fndF l most).isSome])/\VR (Cq A ((W.setCell ⟨w.heap.size+1,0,none⟩ (.slice none 0 0)).setCell ⟨w.heap.size+2,0,none⟩ (.bool false))) (Aa ((fndF l most).getD [])) u/\Below w.heap.size w ((W.setCell ⟨w.heap.size+1,0,none⟩ (.slice none 0 0)).setCell ⟨w.heap.size+2,0,none⟩ (.bool false)):=by
  intro W hW hf R h4 h5
  obtain ⟨q0,q1,q2,q3,q4⟩:=hrd hW
  refine ⟨.tuple #[.slice none 0 0,.bool false],Vy h4 h5 ?_ ?_,.slice none 0 0,by rw [hf] <;> rfl,?_,?_⟩
  ·rw [World.cell?_setCell_other _ _ _ _ (by simp)]; exact World.cell?_setCell_same' _ _ _ (by rw [q1]; rfl)
  ·exact World.cell?_setCell_same' _ _ _ (by rw [World.cell?_setCell_other _ _ _ _ (by simp),q3]; rfl)
  ·rw [hf]; simp only [Option.getD,Aa,VR]; exact ⟨_,_,_,rfl,rfl,Nat.le_refl _,trivial,.inl rfl⟩
  ·exact ((hb1.trans (hW.mono (by omega))).setCell (p:=⟨w.heap.size+1,0,none⟩) (by simp) _).setCell (p:=⟨w.heap.size+2,0,none⟩) (by simp) _
 by_cases hsys:sysE l=0
 case neg =>
  have hf:fndF l most=none:=by unfold fndF okF; simp [hsys]
  gi_wp2_with fail
  exact none_case w2 hb2 hf _ rfl rfl
 by_cases h0:most<0
 ·have hf:fndF l most=none:=by unfold fndF okF; rw [if_neg (by simp <;> omega)]
  gi_wp2_with fail
  exact none_case w2 hb2 hf _ rfl rfl
 by_cases h8:8<most
 ·have hf:fndF l most=none:=by unfold fndF okF; rw [if_neg (by simp <;> omega)]
  have h8':most > 8:=h8
  gi_wp2_with fail
  exact none_case w2 hb2 hf _ rfl rfl
 have h8':¬ most > 8:=h8
 have hV:=Af3 (vs:=#[.slice a l.length cap]) (w:=w2) (hA.le (Nat.le_trans hb1.size hb2.size)) (fun S tk k=>V3 S tk k l) (by simp only [VRs,and_true]; exact hv1.below0 hb2)
 gi_wp2_with fail
 refine ⟨trivial,(callsIn_wide.2 hV).mono ?_⟩
 clear hV
 rintro e w3 ⟨v3,rfl,hb3,hv3⟩
 have hvo:Gl l=A4 l:=if_pos hsys
 rw [hvo] at hv3
 obtain ⟨na,nc,rfl,hnc,hns⟩:=Acc hv3
 have hb13:Below w1.heap.size w1 w3:=hb2.trans (hb3.mono hs2)
 by_cases h6:6<(A4 l).length
 ·have hf:fndF l most=none:=by unfold fndF okF; rw [if_neg (by simp <;> omega)]
  have h6':((A4 l).length:Int) > 6:=by omega
  obtain ⟨e0,e1,e2,e3,e4⟩:=hrd hb13
  gi_wp2_with fail
  exact none_case w3 hb13 hf _ rfl rfl
 have h6':¬ ((A4 l).length:Int) > 6:=by omega
 obtain ⟨m,rfl⟩:∃ m:Nat,most=(m:Int):=⟨most.toNat,by omega⟩
 have hwm:IntKind.i64.wrap ((m:Int)+1)=(m:Int)+1:=Go.IntWalk.i64_in _ (by omega)
 gi_wp2_with fail
 have hnl:(A4 l).length<=6:=by omega
 have hok:okF l (m:Int)=true:=by unfold okF; simp; omega
 have hfind:fndF l (m:Int)=Ge (satF l) (A4 l) 0 (m+1):=by unfold fndF; rw [if_pos hok]; rfl
 obtain ⟨I,hI⟩:∃ I:Act->World->Prop,I=fun a' W=>∃ (j:Nat) (ds:List Nat),a'.tmps.size=40/\a'.tmps[2]?=some (.pointer (some ⟨w.heap.size,0,none⟩))/\a'.tmps[4]?=some (.pointer (some ⟨w.heap.size+1,0,none⟩))/\a'.tmps[5]?=some (.pointer (some ⟨w.heap.size+1+1,0,none⟩)) /\
   a'.tmps[6]?=some (.slice na (A4 l).length nc)/\a'.tmps[26]?=some (.int .i64 ((m:Int)+1))/\a'.tmps[27]?=some (.int .i64 (j:Nat))/\a'.defers=ds.map mk/\j<=m+1/\(∀ r ∈ ds,W.heap[r]?=some (.deferred (some []))/\w3.heap.size<=r)/\ds.Nodup/\Below w3.heap.size w3 W /\
   Ge (satF l) (A4 l) 0 (m+1)=Ge (satF l) (A4 l) j (m+1 - j):=⟨_,rfl⟩
 refine wpIn_loop I (fun a' _=>m+1 - (Jk (a'.tmps.getD 27 undef)).toNat) ?_ ?_
 ·rw [hI]
  exact ⟨0,[],rfl,rfl,rfl,rfl,rfl,rfl,rfl,rfl,Nat.zero_le _,by simp,List.nodup_nil,Below.refl _ _,rfl⟩
 rintro ⟨t,df⟩ W hinv
 rw [hI] at hinv
 obtain ⟨j,ds,q0,q2,q4,q5,q6,q26,q27,rfl,hj,hds,hnd,hbW,hE⟩:=hinv
 obtain ⟨x0,x1,x2,x3,x4,x5,x6,x7,x8,x9,x10,x11,x12,x13,x14,x15,x16,x17,x18,x19,x20,x21,x22,x23,x24,x25,x26,x27,x28,x29,x30,x31,x32,x33,x34,x35,x36,x37,x38,x39,rfl⟩:=tab40 q0
 simp only [List.getElem?_toArray,List.getElem?_cons_succ,List.getElem?_cons_zero,Option.some.injEq] at q2 q4 q5 q6 q26 q27
 subst q2 q4 q5 q6 q26 q27
 have hb1W:Below w1.heap.size w1 W:=hb13.trans (hbW.mono hb13.size)
 obtain ⟨g0,g1,g2,g3,g4⟩:=hrd hb1W
 by_cases hlt:j<m+1
 case neg =>
  have hji:¬ ((j:Nat):Int)<(m:Int)+1:=by omega
  have hn0:m+1 - j=0:=by omega
  have hfn:fndF l (m:Int)=none:=by rw [hfind,hE,hn0]; rfl
  gi_wp2_with fail
  obtain ⟨X,hX⟩:∃ X,X=(W.setCell ⟨w.heap.size+1,0,none⟩ (.slice none 0 0)).setCell ⟨w.heap.size+1+1,0,none⟩ (.bool false):=⟨_,rfl⟩
  rw [<- hX]
  obtain ⟨v,k1,u,k2,k3,k4⟩:=none_case W hb1W hfn #[x0,x1,.pointer (some ⟨w.heap.size,0,none⟩),x3,.pointer (some ⟨w.heap.size+1,0,none⟩),.pointer (some ⟨w.heap.size+1+1,0,none⟩)] rfl rfl
  have hXh:∀ k,k≠w.heap.size+1->k≠w.heap.size+1+1->X.heap[k]?=W.heap[k]?:=fun k h1 h2=>by
   rw [hX,Below.heap_setCell _ _ _ _ (by simpa using h2),Below.heap_setCell _ _ _ _ (by simpa using h1)]
  have hs3:=hb13.size
  refine Qw (R:=_) ds X hnd (fun r hr=>by rw [hXh r (by have:=(hds r hr).2; omega) (by have:=(hds r hr).2; omega)]; exact (hds r hr).1) fun W' s1 s2 s3 s4 s5=>?_
  have cs:∀ {p:Addr} {v:Value},p.block<w3.heap.size->X.cell? p=some v->W'.cell? p=some v:=fun {p v} hp h=>by
   rw [World.cell?_of_block (w:=X) (s5 p.block fun hm=>by have:=(hds _ hm).2; omega)]; exact h
  have c1:X.cell? ⟨w.heap.size+1,0,none⟩=some (.slice none 0 0):=by
   rw [hX,World.cell?_setCell_other _ _ _ _ (by simp)]; exact World.cell?_setCell_same' _ _ _ (by rw [g1]; rfl)
  have c2:X.cell? ⟨w.heap.size+1+1,0,none⟩=some (.bool false):=by
   rw [hX]; exact World.cell?_setCell_same' _ _ _ (by rw [World.cell?_setCell_other _ _ _ _ (by simp),g3]; rfl)
  refine ⟨_,Vy (B:=w.heap.size) rfl rfl (cs (by simp only; omega) c1) (cs (by simp only; omega) c2),.slice none 0 0,by first|rfl|(rw [hn0]; rfl),?_,?_⟩
  ·try rw [hn0]
   simp only [Ge,Option.getD,Aa,VR]; exact ⟨_,_,_,rfl,rfl,Nat.le_refl _,trivial,.inl rfl⟩
  ·have kb:Below w.heap.size w X:=by rw [hX]; exact k4
   exact ⟨s2.trans kb.os,s3.trans kb.tape,s4.trans kb.output,by rw [s1]; exact kb.size,fun k hk=>(s5 k fun hm=>by have:=(hds _ hm).2; omega).trans (kb.block k hk)⟩
 have hji:((j:Nat):Int)<(m:Int)+1:=by omega
 have hP:=Ah7 W (.slice a l.length cap) (.slice na (A4 l).length nc) (j:Int) rfl rfl
 gi_wp2_with fail
 refine ⟨trivial,(callsIn_wide.2 (callsIn_wide.1 hP)).mono ?_⟩
 clear hP
 rintro e w4 ⟨rfl,hw4⟩
 have hbW4:Below W.heap.size W w4:=by rw [hw4]; exact (((Below.refl _ W).alloc (Nat.le_refl _) _).alloc (by simp) _).alloc (by simp; omega) _
 have hsW4:W.heap.size+3=w4.heap.size:=by rw [hw4]; simp
 have hP0:w4.heap[W.heap.size]?=some (.cells #[.slice a l.length cap] 22 (0,0)):=by
  rw [hw4,Below.heap_alloc _ _ _ (by simp; omega),Below.heap_alloc _ _ _ (by simp)]; exact Ag W _
 have hP1:w4.heap[W.heap.size+1]?=some (.cells #[.slice na (A4 l).length nc] 41 (0,0)):=by
  rw [hw4,Below.heap_alloc _ _ _ (by simp)]
  have:=Ag (W.alloc (.cells #[.slice a l.length cap] 22)) (.cells #[.slice na (A4 l).length nc] 41); rwa [World.size_alloc] at this
 have hP2:w4.heap[W.heap.size+2]?=some (.cells #[.int .i64 (j:Int)] 3 (0,0)):=by
  rw [hw4]
  have:=Ag ((W.alloc (.cells #[.slice a l.length cap] 22)).alloc (.cells #[.slice na (A4 l).length nc] 41)) (.cells #[.int .i64 (j:Int)] 3); rwa [World.size_alloc,World.size_alloc] at this
 have hsle:W.heap.size<=w4.heap.size:=hbW4.size
 clear hw4
 gi_wp2_with fail
 refine Aek (n:=4) rfl (fun _=>trivial) hdw 38 #[.pointer (some ⟨W.heap.size,0,none⟩),.pointer (some ⟨W.heap.size+2,0,none⟩),.pointer (some ⟨W.heap.size+1,0,none⟩)] rfl (enters_of func38 (by kernel_rfl) rfl) ?_
 intro fn rec hrec W1 hW1
 have hL1:W1.heap[w4.heap.size+1]?=some (.loop (rec .ready none)):=by
  rw [<- hW1]; have:=World.alloc_heap_new (w4.alloc (.deferred (some []))) (.loop (rec .ready none)); rwa [World.size_alloc] at this
 have hK1:W1.heap[w4.heap.size]?=some (.deferred (some [])):=by
  rw [<- hW1]; exact (Below.heap_alloc _ _ _ (by simp)).trans (World.alloc_heap_new w4 _)
 have hbW1:Below w4.heap.size w4 W1:=by rw [<- hW1]; exact ((Below.refl _ w4).alloc (Nat.le_refl _) _).alloc (by simp) _
 have hsW1:w4.heap.size+1<W1.heap.size:=by rw [<- hW1]; simp
 clear hW1
 have hbW':Below W.heap.size W W1:=hbW4.trans (hbW1.mono hsle)
 have hs3:=hb13.size
 have hsW:=hbW.size
 have hds1:∀ r ∈ ds,r<W.heap.size:=fun r hr=>(Array.getElem?_eq_some_iff.1 (hds r hr).1).1
 have hrounds:P0 A l (A4 l).length W1 (w4.heap.size+1) (fun p W'=>W'.heap[w4.heap.size+1]?=some (.loop (rec .done (some .ret)))/\W'.heap[w4.heap.size]?=some (.deferred (some []))/\(∀ r ∈ ds,W'.heap[r]?=some (.deferred (some []))) /\
   (∃ v,W'.cell? ⟨w.heap.size+1,0,none⟩=some v/\VR (Cq A W') (Aa p) v)/\W'.cell? ⟨w.heap.size+2,0,none⟩=some (.bool true)/\Below w.heap.size w W'):=by
  intro V p v hpl hB hvp
  have hl:V.heap[w4.heap.size+1]?=some (.loop (rec .ready none)):=(hB.block _ (by omega)).trans hL1
  have hk:V.heap[w4.heap.size]?=some (.deferred (some [])):=(hB.block _ (by omega)).trans hK1
  have hdV:∀ r ∈ ds,V.heap[r]?=some (.deferred (some [])):=fun r hr=>(hB.block r (by have:=hds1 r hr; omega)).trans ((hbW'.block r (hds1 r hr)).trans (hds r hr).1)
  have hy:=run_yield (P:=prog) (args:=#[v]) hl (by rw [hrec]; rfl)
  rw [hrec] at hy
  refine ⟨fn,_,_,_,hy,roundIn_of_wpIn trivial ?_⟩
  obtain ⟨pa,pc,rfl,hpc,hcells⟩:=Acg hvp
  have HPL:=Lib.hid hpl
  clear hpl
  have hsV:=hB.size
  have hlt:w4.heap.size+1<V.heap.size:=by omega
  gi_wp2_with fail
  refine ⟨_,run_beginRound hl (by rw [hrec]),?_⟩
  obtain ⟨Wb,hWb⟩:∃ Wb,Wb=V.putObj (w4.heap.size+1) (.loop { rec .ready none with state:=.busy }):=⟨_,rfl⟩
  rw [<- hWb]
  have hsb:Wb.heap.size=V.heap.size:=by rw [hWb]; simp
  have hob:∀ k,k≠w4.heap.size+1->Wb.heap[k]?=V.heap[k]?:=fun k hk=>by rw [hWb,World.putObj_heap_other hk]
  have hlb:Wb.heap[w4.heap.size+1]?=some (.loop { rec .ready none with state:=.busy }):=by
   rw [hWb]; exact World.putObj_heap_same (by omega)
  have hos:Wb.os=V.os/\Wb.tape=V.tape/\Wb.output=V.output:=by rw [hWb]; exact ⟨rfl,rfl,rfl⟩
  clear hWb
  have hbV:Below w4.heap.size w4 V:=hbW1.trans (hB.mono (by omega))
  have hb4b:Below w4.heap.size w4 Wb:=⟨hos.1.trans hbV.os,hos.2.1.trans hbV.tape,hos.2.2.trans hbV.output,by omega,fun k hk=>(hob k (by omega)).trans (hbV.block k hk)⟩
  have hb1b:Below w1.heap.size w1 Wb:=hb1W.trans ((hbW4.trans (hb4b.mono hsle)).mono hb1W.size)
  have hvb:VR (Cq A Wb) (Aa p) (.slice pa p.length pc):=by
   simp only [Aa,VR] at hvp ⊢
   obtain ⟨a',len,cap',e0,e1,e2,-,e4⟩:=hvp
   refine ⟨a',len,cap',e0,e1,e2,trivial,e4.imp id ?_⟩
   rintro ⟨b,o,sz,rfl,hr⟩
   refine ⟨b,o,sz,rfl,A5.stays (A':=(Cq A Wb).Avoid) (fun b' o' v' hv' ha=>⟨?_,ha⟩) _ _ _ _ hr⟩
   refine (World.cell?_of_block (w:=(Cq A V).w) (hob b' fun e=>?_)).trans hv'
   subst e
   have hv'':V.cell? ⟨w4.heap.size+1,o',none⟩=some v':=hv'
   unfold World.cell? at hv''
   dsimp only at hv''
   rw [hl] at hv''
   simp at hv''
  obtain ⟨z0,z1,z2,z3,z4⟩:=hrd hb1b
  have hS:=Af3 (vs:=#[.slice a l.length cap,.slice pa p.length pc]) (w:=Wb) (hA.le (Nat.le_trans hb1.size hb1b.size)) (fun S tk k=>Gg S tk k l p (by have:=(Lt hsys).2.1; omega) (fun r hr=>by have:=(Lt hsys).1 r hr; omega) (by have:=HPL.out; omega)) (by
   simp only [VRs,and_true]; exact ⟨hv1.below0 hb1b,hvb⟩)
  clear hy
  gi_wp2_with fail
  refine ⟨trivial,(CallsIn.inRound (w4.heap.size+1) (callsIn_wide.2 hS)).mono ?_⟩
  clear hS
  rintro e w5 ⟨v5,rfl,hb5,hv5⟩
  simp only [VR] at hv5
  subst hv5
  have hs5:=hb5.size
  have hl5:w5.heap[w4.heap.size+1]?=some (.loop { rec .ready none with state:=.busy }):=(hb5.block _ (by omega)).trans hlb
  obtain ⟨z0,z1,z2,z3,z4⟩:=hrd (hb1b.trans (hb5.mono hb1b.size))
  cases hsat:satF l p with
  | false =>
   gi_wp2_with fail
   refine ⟨_,_,run_endRound none hl5,.inl ⟨hsat,rfl,?_⟩⟩
   obtain ⟨W6,hW6⟩:∃ W6,W6=w5.putObj (w4.heap.size+1) (.loop { ({ rec .ready none with state:=.busy } : Loop) with state:=if (none:Option Code).isNone then .ready else .done,pending:=none }):=⟨_,rfl⟩
   rw [<- hW6]
   have h6s:W6.heap.size=w5.heap.size:=by rw [hW6]; simp
   have h6o:∀ k,k≠w4.heap.size+1->W6.heap[k]?=w5.heap[k]?:=fun k hk=>by rw [hW6,World.putObj_heap_other hk]
   have h6l:W6.heap[w4.heap.size+1]?=some (.loop (rec .ready none)):=by
    rw [hW6,World.putObj_heap_same (by omega),hrec]; rfl
   have h6e:W6.os=w5.os/\W6.tape=w5.tape/\W6.output=w5.output:=by rw [hW6]; exact ⟨rfl,rfl,rfl⟩
   clear hW6
   refine ⟨h6e.1.trans (hb5.os.trans hos.1),h6e.2.1.trans (hb5.tape.trans hos.2.1),h6e.2.2.trans (hb5.output.trans hos.2.2),by omega,fun k hk=>?_⟩
   by_cases hkl:k=w4.heap.size+1
   ·rw [hkl,h6l,hl]
   ·rw [h6o k hkl,hb5.block k (by omega),hob k hkl]
  | true =>
   gi_wp2_with fail
   obtain ⟨X,hX⟩:∃ X,X=(w5.setCell ⟨w.heap.size+1,0,none⟩ (.slice pa p.length pc)).setCell ⟨w.heap.size+1+1,0,none⟩ (.bool true):=⟨_,rfl⟩
   rw [<- hX]
   have hXs:X.heap.size=w5.heap.size:=by rw [hX]; simp
   have hXo:∀ k,k≠w.heap.size+1->k≠w.heap.size+1+1->X.heap[k]?=w5.heap[k]?:=fun k h1 h2=>by
    rw [hX,Below.heap_setCell _ _ _ _ (by simpa using h2),Below.heap_setCell _ _ _ _ (by simpa using h1)]
   have hX1:X.cell? ⟨w.heap.size+1,0,none⟩=some (.slice pa p.length pc):=by
    rw [hX,World.cell?_setCell_other _ _ _ _ (by simp)]; exact World.cell?_setCell_same' _ _ _ (by rw [z1]; rfl)
   have hX2:X.cell? ⟨w.heap.size+1+1,0,none⟩=some (.bool true):=by
    rw [hX]; exact World.cell?_setCell_same' _ _ _ (by rw [World.cell?_setCell_other _ _ _ _ (by simp),z3]; rfl)
   have hb1V:Below w.heap.size w w5:=hb1.trans (((hb1b.trans (hb5.mono hb1b.size))).mono (by omega))
   have hbX:Below w.heap.size w X:=by
    rw [hX]; exact (hb1V.setCell (p:=⟨w.heap.size+1,0,none⟩) (by simp) _).setCell (p:=⟨w.heap.size+1+1,0,none⟩) (by simp only; omega) _
   clear hX
   have hlX:X.heap[w4.heap.size+1]?=some (.loop { rec .ready none with state:=.busy }):=by
    rw [hXo _ (by omega) (by omega)]; exact hl5
   refine ⟨_,_,run_endRound (some .ret) hlX,.inr ⟨hsat,rfl,?_⟩⟩
   obtain ⟨Y,hYd⟩:∃ Y,Y=X.putObj (w4.heap.size+1) (.loop { ({ rec .ready none with state:=.busy } : Loop) with state:=if (some Code.ret).isNone then .ready else .done,pending:=some .ret }):=⟨_,rfl⟩
   rw [<- hYd]
   have hYo:∀ k,k≠w4.heap.size+1->Y.heap[k]?=X.heap[k]?:=fun k hk=>by rw [hYd,World.putObj_heap_other hk]
   have hYl:Y.heap[w4.heap.size+1]?=some (.loop (rec .done (some .ret))):=by
    rw [hYd,World.putObj_heap_same (by omega),hrec]; rfl
   have hYe:Y.os=X.os/\Y.tape=X.tape/\Y.output=X.output/\Y.heap.size=X.heap.size:=by rw [hYd]; exact ⟨rfl,rfl,rfl,World.putObj_size⟩
   clear hYd
   have up:∀ k,k≠w4.heap.size+1->k≠w.heap.size+1->k≠w.heap.size+1+1->k<V.heap.size->Y.heap[k]?=V.heap[k]?:=fun k h1 h2 h3 h4=>by
    rw [hYo k h1,hXo k h2 h3,hb5.block k (by omega),hob k h1]
   refine ⟨hYl,?_,fun r hr=>?_,⟨.slice pa p.length pc,?_,?_⟩,?_,?_⟩
   ·rw [up _ (by omega) (by omega) (by omega) (by omega)]; exact hk
   ·rw [up r (by have:=hds1 r hr; omega) (by have:=(hds r hr).2; omega) (by have:=(hds r hr).2; omega) (by have:=hds1 r hr; omega)]; exact hdV r hr
   ·rw [World.cell?_of_block (w:=X) (hYo _ (by simp; omega))]; exact hX1
   ·rcases hcells with rfl|⟨b,o,rfl,hcl⟩
    ·simp only [Aa,VR]; exact ⟨_,_,_,rfl,rfl,hpc,trivial,.inl rfl⟩
    ·refine Ala hpc fun q u hq=>?_
     obtain ⟨hq',hna⟩:=hcl q u hq
     have hone:∀ (v:Value),v=u->(∃ s,v=.string s)\/∃ n,v=.int .i64 n:=fun v hv=>by
      subst hv; exact Tt p _ (List.mem_of_getElem? hq)
     have hbV1:Below w1.heap.size w1 V:=hb1W.trans ((hbW4.trans (hbV.mono hsle)).mono hb1W.size)
     have n1:b≠w.heap.size+1:=fun e=>by
      subst e
      have hh:=(hbV1.block (w.heap.size+1) (by omega)).trans hB1
      simp only [World.cell?,hh] at hq'
      have hq2:(#[Value.slice none 0 0]:Array Value)[o+q]?=some u:=by simpa using hq'
      have:u=.slice none 0 0:=by
       have hm:=Array.mem_of_getElem? hq2
       simpa using hm
      rcases hone u rfl with ⟨s,e⟩|⟨s,e⟩ <;> rw [this] at e <;> cases e
     have n2:b≠w.heap.size+1+1:=fun e=>by
      subst e
      have hh:=(hbV1.block (w.heap.size+2) (by omega)).trans hB2
      simp only [World.cell?,hh] at hq'
      have hq2:(#[Value.bool false]:Array Value)[o+q]?=some u:=by simpa using hq'
      have:u=.bool false:=by
       have hm:=Array.mem_of_getElem? hq2
       simpa using hm
      rcases hone u rfl with ⟨s,e⟩|⟨s,e⟩ <;> rw [this] at e <;> cases e
     have n3:b≠w4.heap.size+1:=fun e=>by
      subst e
      unfold World.cell? at hq'
      dsimp only at hq'
      rw [hl] at hq'
      simp at hq'
     exact ⟨(World.cell?_of_block (w:=V) (up b n3 n1 n2 (Dn hq'))).trans hq',hna⟩
   ·rw [World.cell?_of_block (w:=X) (hYo _ (by simp; omega))]; exact hX2
   ·exact ⟨hYe.1.trans hbX.os,hYe.2.1.trans hbX.tape,hYe.2.2.1.trans hbX.output,by rw [hYe.2.2.2]; exact hbX.size,fun k hk=>(hYo k (by omega)).trans (hbX.block k hk)⟩
 have rd:∀ {V:World},Below w4.heap.size w4 V->V.cell? ⟨W.heap.size,0,none⟩=some (.slice a l.length cap)/\V.cell? ⟨W.heap.size+1,0,none⟩=some (.slice na (A4 l).length nc)/\V.cell? ⟨W.heap.size+2,0,none⟩=some (.int .i64 (j:Int)):=by
  intro V hb
  have h0:=(hb.block W.heap.size (by omega)).trans hP0
  have h1:=(hb.block (W.heap.size+1) (by omega)).trans hP1
  have h2:=(hb.block (W.heap.size+2) (by omega)).trans hP2
  simp [World.cell?,h0,h1,h2]
 obtain ⟨p0,p1,p2⟩:=rd hbW1
 have hbl:Below w1.heap.size w1 W1:=hb1W.trans (hbW'.mono hb1W.size)
 have hb3l:Below w3.heap.size w3 W1:=hbW.trans (hbW'.mono hsW)
 refine ((callsIn_wide.2 (callsIn_wide.1 (Aeh (W:=W1) (hA.le (Nat.le_trans hb1.size hbl.size)) (Aoj hsys) hnl (Aet l) ⟨by omega,by omega⟩ hrounds ⟨_,p0,hv1.below0 hbl⟩ p2 ⟨_,p1,hv3.below0 hb3l⟩)))).mono ?_
 rintro e W7 ⟨⟨v7,rfl⟩,(⟨hf0,hb7⟩|⟨p,hf0,hl7,hk7,hd7,⟨pv,hc7,hv7⟩,hc8,hb7⟩)⟩
 ·have hl7:W7.heap[w4.heap.size+1]?=some (.loop (rec .ready none)):=(hb7.block _ (by omega)).trans hL1
  have hk7:W7.heap[w4.heap.size]?=some (.deferred (some [])):=(hb7.block _ (by omega)).trans hK1
  refine ⟨_,_,run_endLoop hl7 (by rw [hrec]; simp),?_⟩
  rw [show (rec .ready none).pending=none by rw [hrec]]
  dsimp only
  obtain ⟨W8,hW8⟩:∃ W8,W8=W7.putObj (w4.heap.size+1) (.loop { (rec .ready none) with state:=.exhausted,pending:=none }):=⟨_,rfl⟩
  rw [<- hW8]
  have h8o:∀ k,k≠w4.heap.size+1->W8.heap[k]?=W7.heap[k]?:=fun k hk=>by rw [hW8,World.putObj_heap_other hk]
  have h8e:W8.os=W7.os/\W8.tape=W7.tape/\W8.output=W7.output/\W8.heap.size=W7.heap.size:=by rw [hW8]; exact ⟨rfl,rfl,rfl,World.putObj_size⟩
  clear hW8
  have hk8:=(h8o w4.heap.size (by omega)).trans hk7
  have hb47:Below W.heap.size W W7:=hbW'.trans (hb7.mono hbW'.size)
  have hb48:Below W.heap.size W W8:=⟨h8e.1.trans hb47.os,h8e.2.1.trans hb47.tape,h8e.2.2.1.trans hb47.output,by rw [h8e.2.2.2]; exact hb47.size,fun k hk=>(h8o k (by omega)).trans (hb47.block k hk)⟩
  have hwj:IntKind.i64.wrap ((j:Int)+1)=((j+1:Nat):Int):=by rw [Go.IntWalk.i64_in _ (by omega)]; omega
  have hstep:Ge (satF l) (A4 l) j (m+1 - j)=Ge (satF l) (A4 l) (j+1) (m+1 - (j+1)):=by
   have e1:m+1 - j=(m+1 - (j+1))+1:=by omega
   rw [e1,Ge,hf0]
  gi_wp2_with fail
  refine ⟨⟨j+1,by omega,w4.heap.size :: ds,rfl,by omega,fun r hr=>?_,?_,?_,?_⟩,by simp [Jk]; omega⟩
  ·rcases List.mem_cons.1 hr with rfl|hr
   ·exact ⟨hk8,by omega⟩
   ·have:=hds1 r hr
    refine ⟨?_,(hds r hr).2⟩
    rw [hb48.block r this]; exact (hds r hr).1
  ·exact List.nodup_cons.2 ⟨fun hm=>by have:=hds1 _ hm; omega,hnd⟩
  ·exact hbW.trans (hb48.mono hsW)
  ·rw [show m+1 - (j+1)=m - j by omega]
 ·have hs7:=hb7.size
  refine ⟨_,_,run_endLoop hl7 (by rw [hrec]; simp),?_⟩
  rw [show (rec .done (some .ret)).pending=some .ret by rw [hrec]]
  dsimp only
  obtain ⟨W8,hW8⟩:∃ W8,W8=W7.putObj (w4.heap.size+1) (.loop { (rec .done (some .ret)) with state:=.exhausted,pending:=some .ret }):=⟨_,rfl⟩
  rw [<- hW8]
  have h8o:∀ k,k≠w4.heap.size+1->W8.heap[k]?=W7.heap[k]?:=fun k hk=>by rw [hW8,World.putObj_heap_other hk]
  have h8e:W8.os=W7.os/\W8.tape=W7.tape/\W8.output=W7.output/\W8.heap.size=W7.heap.size:=by rw [hW8]; exact ⟨rfl,rfl,rfl,World.putObj_size⟩
  clear hW8
  have hk8:=(h8o w4.heap.size (by omega)).trans hk7
  have hd8:∀ r ∈ ds,W8.heap[r]?=some (.deferred (some [])):=fun r hr=>(h8o r (by have:=hds1 r hr; omega)).trans (hd7 r hr)
  have hfp:Ge (satF l) (A4 l) j (m+1 - j)=some p:=by
   have e1:m+1 - j=(m - j)+1:=by omega
   rw [e1,Ge,hf0]
  have hnd2:(w4.heap.size :: ds).Nodup:=List.nodup_cons.2 ⟨fun hm=>by have:=hds1 _ hm; omega,hnd⟩
  have hfl:fndF l (m:Int)=some p:=by rw [hfind,hE,hfp]
  gi_wp2_with fail
  refine Qw (w4.heap.size :: ds) W8 hnd2 (fun r hr=>by
   rcases List.mem_cons.1 hr with rfl|hr
   ·exact hk8
   ·exact hd8 r hr) fun W' s1 s2 s3 s4 s5=>?_
  have hno:∀ {b o:Nat} {u:Value},W7.cell? ⟨b,o,none⟩=some u->b≠w4.heap.size+1/\b ∉ w4.heap.size :: ds:=fun {b o u} h=>by
   refine ⟨fun e=>?_,fun hm=>?_⟩
   ·subst e
    unfold World.cell? at h
    dsimp only at h
    rw [hl7] at h
    simp at h
   ·have hh:W7.heap[b]?=some (.deferred (some [])):=by
     rcases List.mem_cons.1 hm with rfl|hm
     ·exact hk7
     ·exact hd7 b hm
    unfold World.cell? at h
    dsimp only at h
    rw [hh] at h
    simp at h
  have keep:∀ {b o:Nat} {u:Value},W7.cell? ⟨b,o,none⟩=some u->W'.cell? ⟨b,o,none⟩=some u:=fun {b o u} h=>by
   obtain ⟨n1,n2⟩:=hno h
   rw [World.cell?_of_block (w:=W8) (s5 b n2),World.cell?_of_block (w:=W7) (h8o b n1)]; exact h
  refine ⟨_,Vy (B:=w.heap.size) rfl rfl (keep hc7) (keep hc8),pv,?_,?_,?_⟩
  ·first|rfl|(rw [hfl]; rfl)|(simp only [hfp]; rfl)
  ·have hgoal:VR (Cq A W') (Aa p) pv:=by
    simp only [Aa,VR] at hv7 ⊢
    obtain ⟨a',len,cap',e0,e1,e2,-,e4⟩:=hv7
    refine ⟨a',len,cap',e0,e1,e2,trivial,e4.imp id ?_⟩
    rintro ⟨b,o,sz,rfl,hr⟩
    exact ⟨b,o,sz,rfl,A5.stays (A':=(Cq A W').Avoid) (fun b' o' v' hv' ha=>⟨keep hv',ha⟩) _ _ _ _ hr⟩
   first|exact hgoal|(rw [hfl]; exact hgoal)|(simp only [hfp]; exact hgoal)
  ·refine ⟨s2.trans (h8e.1.trans hb7.os),s3.trans (h8e.2.1.trans hb7.tape),s4.trans (h8e.2.2.1.trans hb7.output),by rw [s1,h8e.2.2.2]; exact hb7.size,fun k hk=>?_⟩
   rw [s5 k (fun hm=>by
    rcases List.mem_cons.1 hm with rfl|hm
    ·omega
    ·have:=(hds k hm).2; omega),h8o k (by omega)]
   exact hb7.block k hk
end
section
open Go
theorem Ana {a b:Int} (h:a.natAbs<b.natAbs):befF a b=true:=by
 unfold befF
 rw [if_neg (by omega)]; simpa using h
theorem Ac4:∀ n,(K4 n).Pairwise fun a b=>befF a b=true
 | 0=>by simp [K4]
 | n+1=>by
  rw [K4,List.pairwise_append]
  refine ⟨Ac4 n,?_,fun x hx y hy=>?_⟩
  ·simp only [List.pairwise_cons,List.mem_cons,List.not_mem_nil,or_false,forall_eq,false_implies,implies_true,List.Pairwise.nil,and_true]
   unfold befF
   rw [if_pos (by omega)]
   simp only [decide_eq_true_eq]; omega
  ·rw [Vk] at hx
   simp only [List.mem_cons,List.not_mem_nil,or_false] at hy
   exact Ana (by omega)
theorem Als (r:Int):(Db r).Pairwise fun a b=>befF a b=true:=by
 unfold Db
 split
 ·exact List.Pairwise.nil
 ·exact Ac4 _
theorem Ts {α β:Type} {f:α->Option β} {R:α->α->Prop} : ∀ {l:List α} {y:β},l.Pairwise R->l.findSome? f=some y->∃ a ∈ l,f a=some y/\∀ b ∈ l,b=a\/R a b\/f b=none
 | [],_,_,h=>by simp at h
 | x :: l,y,hp,h=>by
  obtain ⟨h1,h2⟩:=List.pairwise_cons.1 hp
  rw [List.findSome?_cons] at h
  cases hx:f x with
  | some z =>
   rw [hx] at h
   simp only [Option.some.injEq] at h
   subst h
   refine ⟨x,by simp,hx,fun b hb=>?_⟩
   rcases List.mem_cons.1 hb with rfl|hb
   ·exact .inl rfl
   ·exact .inr (.inl (h1 b hb))
  | none =>
   rw [hx] at h
   obtain ⟨a,ha,e,h3⟩:=Ts h2 h
   refine ⟨a,by simp [ha],e,fun b hb=>?_⟩
   rcases List.mem_cons.1 hb with rfl|hb
   ·exact .inr (.inr hx)
   ·exact h3 b hb
def Lex:Pt->Pt->Prop
 | x :: a,y :: b=>befF x.2 y.2=true\/(x.2=y.2/\Lex a b)
 | _,_=>False
def AtR (r:Int) (ns:List ByteArray) (reached:Bool) (ext:Pt):Prop:=ext.map (·.1)=ns/\(∀ x ∈ ext,x.2 ∈ Db r)/\(reached=true\/∃ x ∈ ext,x.2=r\/x.2=-r)
theorem Aan {r:Int} {s:ByteArray} {ns:List ByteArray} {reached:Bool} {ext:Pt} (h:AtR r (s :: ns) reached ext):∃ n ext',ext=(s,n) :: ext'/\n ∈ Db r/\AtR r ns (reached || n == r || n == -r) ext':=by
 obtain ⟨h1,h2,h3⟩:=h
 match ext,h1 with
 | [],h1=>simp at h1
 | x :: ext',h1 =>
  rw [List.map_cons,List.cons.injEq] at h1
  refine ⟨x.2,ext',by rw [<- h1.1],h2 x (by simp),h1.2,fun y hy=>h2 y (by simp [hy]),?_⟩
  rcases h3 with h3|⟨y,hy,h3⟩
  ·left; simp [h3]
  ·rcases List.mem_cons.1 hy with rfl|hy
   ·left
    rcases h3 with h3|h3 <;> simp [h3]
   ·exact .inr ⟨y,hy,h3⟩
theorem Lr {sat:Pt->Bool} {r:Int} : ∀ {ns:List ByteArray} {pt:Pt} {reached:Bool},A6 sat r ns pt reached=none->∀ ext,AtR r ns reached ext->sat (pt++ext)=false
 | [],pt,reached,h,ext,ha=>by
  obtain ⟨h1,-,h3⟩:=ha
  have he:ext=[]:=by simpa using h1
  subst he
  have hr:reached=true:=by
   rcases h3 with h3|⟨x,hx,-⟩
   ·exact h3
   ·simp at hx
  simp only [A6] at h
  split at h
  ·cases h
  ·rename_i hs
   rw [hr,Bool.true_and] at hs
   simpa using hs
 | s :: ns,pt,reached,h,ext,ha=>by
  obtain ⟨n,ext',rfl,hn,ha'⟩:=Aan ha
  simp only [A6] at h
  rw [List.findSome?_eq_none_iff] at h
  have:=Lr (h n hn) ext' ha'
  rw [List.append_assoc] at this
  simpa using this
theorem N3 {sat:Pt->Bool} {r:Int} : ∀ {ns:List ByteArray} {pt:Pt} {reached:Bool} {ext ext2:Pt},A6 sat r ns pt reached=some (pt++ext)->AtR r ns reached ext2->sat (pt++ext2)=true->ext2=ext\/Lex ext ext2
 | [],pt,reached,ext,ext2,h,h2,hs=>by
  have e2:ext2=[]:=by simpa using h2.1
  simp only [A6] at h
  split at h
  ·simp only [Option.some.injEq] at h
   have:ext=[]:=by simpa using h.symm
   exact .inl (by rw [e2,this])
  ·cases h
 | s :: ns,pt,reached,ext,ext2,h,h2,hs=>by
  obtain ⟨n2,ext2,rfl,db,vr⟩:=Aan h2
  simp only [A6] at h
  obtain ⟨n,hn,h1,am⟩:=Ts (Als r) h
  obtain ⟨-,ex,he,-,-,-⟩:=Jc h1
  rw [List.append_assoc,List.append_cancel_left_eq] at he
  subst he
  rcases am n2 db with rfl|h3|h3
  ·have h4:A6 sat r ns (pt++[(s,n2)]) (reached || n2 == r || n2 == -r)=some ((pt++[(s,n2)])++ex):=by rw [h1]; simp
   rcases N3 h4 vr (by simpa using hs) with rfl|h5
   ·left; rfl
   ·right; exact .inr ⟨rfl,h5⟩
  ·right; exact .inl h3
  ·have:=Lr h3 ext2 vr
   rw [List.append_assoc] at this
   rw [show [(s,n2)]++ext2=(s,n2) :: ext2 from rfl,hs] at this
   cases this
theorem Xr {t:ByteArray} {a:Pt} (h:∀ x ∈ a,x.1≠t):Ao t a=0:=Decidable.byContradiction fun h0=>by
 obtain ⟨c,hc,e⟩:=E7 h0
 exact h c hc e
theorem L8 {s:ByteArray} {n:Int} {a:Pt} : Ao s ((s,n) :: a)=n:=by
 rw [Ao,if_pos (by rw [Gj]; simp)]
theorem H1 {s t:ByteArray} {n:Int} {a:Pt} (h:s≠t):Ao t ((s,n) :: a)=Ao t a:=by
 rw [Ao,if_neg (by rw [Gj]; simpa using h)]
theorem X7:∀ {ns:List ByteArray} {a b:Pt},Inc ns->a.map (·.1)=ns->b.map (·.1)=ns->Lex a b->∃ s,befF (Ao s a) (Ao s b)=true/\∀ t,nm t<nm s->Ao t a=Ao t b
 | [],a,b,_,ha,_,h=>by
  have:a=[]:=by simpa using ha
  subst this; exact h.elim
 | s :: ns,a,b,hi,ha,hb,h=>by
  obtain ⟨i1,i2⟩:=List.pairwise_cons.1 hi
  match a,b,ha,hb with
  | x :: a,y :: b,ha,hb =>
  obtain ⟨xs,xv⟩:=x
  obtain ⟨ys,yv⟩:=y
  simp only [List.map_cons,List.cons.injEq] at ha hb
  obtain ⟨rfl,vr⟩:=ha
  obtain ⟨rfl,hb2⟩:=hb
  have na:∀ t,¬ nm ys<nm t->Ao t a=0:=fun t ht=>Xr fun x hx e=>ht (by rw [<- e]; exact i1 x.1 (by rw [<- vr]; exact List.mem_map_of_mem hx))
  have nb:∀ t,¬ nm ys<nm t->Ao t b=0:=fun t ht=>Xr fun x hx e=>ht (by rw [<- e]; exact i1 x.1 (by rw [<- hb2]; exact List.mem_map_of_mem hx))
  rcases h with h|⟨hv,h⟩
  ·refine ⟨ys,by rw [L8,L8]; exact h,fun t ht=>?_⟩
   have hne:ys≠t:=by rintro rfl; exact Di _ ht
   rw [H1 hne,H1 hne,na t fun h2=>Di _ (E9 ht h2),nb t fun h2=>Di _ (E9 ht h2)]
  ·simp only at hv
   subst hv
   obtain ⟨s2,h1,h2⟩:=X7 i2 vr hb2 h
   have hne:ys≠s2:=by
    rintro rfl
    rw [na _ (Di _),nb _ (Di _),Abc] at h1
    cases h1
   refine ⟨s2,by rw [H1 hne,H1 hne]; exact h1,fun t ht=>?_⟩
   by_cases ai:ys=t
   ·subst ai; rw [L8,L8]
   ·rw [H1 ai,H1 ai]; exact h2 t ht
theorem Vb:∀ {a:Pt},Inc (a.map (·.1))->∀ c ∈ a,Ao c.1 a=c.2
 | [],_,c,hc=>by simp at hc
 | x :: a,hi,c,hc=>by
  obtain ⟨i1,i2⟩:=List.pairwise_cons.1 hi
  rcases List.mem_cons.1 hc with rfl|hc
  ·exact L8
  ·have hlt:nm x.1<nm c.1:=i1 c.1 (List.mem_map_of_mem hc)
   have hne:x.1≠c.1:=fun e=>Di (nm x.1) (by have h2:=hlt; rwa [<- e] at h2)
   exact (H1 (s:=x.1) (n:=x.2) hne).trans (Vb i2 c hc)
theorem Lo {a:Pt} (hi:Inc (a.map (·.1))) (n:Nat):radF a<=n↔∀ c ∈ a,c.2.natAbs<=n:=by
 rw [Rg]
 constructor
 ·intro h c hc
  have:=h c.1
  rwa [Vb hi c hc] at this
 ·intro h s
  by_cases h0:Ao s a=0
  ·rw [h0]; simp
  ·obtain ⟨c,hc,rfl⟩:=E7 h0
   rw [Vb hi c hc]; exact h c hc
theorem Aof {a:Pt} (hi:Inc (a.map (·.1))):radF a=0\/∃ c ∈ a,c.2.natAbs=radF a:=by
 cases hr:radF a with
 | zero=>exact .inl rfl
 | succ n =>
  right
  refine Classical.byContradiction fun hx=>?_
  have:radF a<=n:=(Lo hi n).2 fun c hc=>by
   have h1:=(Lo hi (n+1)).1 (by omega) c hc
   have h2:c.2.natAbs≠n+1:=fun e=>hx ⟨c,hc,e⟩
   omega
  omega
theorem Apl {a:Pt} {ns:List ByteArray} (hi:Inc ns) (ha:a.map (·.1)=ns) (h8:radF a<=8):AtR (radF a:Nat) ns (((radF a:Nat):Int) == 0) a:=by
 subst ha
 refine ⟨rfl,fun x hx=>?_,?_⟩
 ·rw [Jw (by omega) (by omega)]
  have:=(Lo hi (radF a)).1 (Nat.le_refl _) x hx
  omega
 ·rcases Aof hi with h|⟨c,hc,h⟩
  ·left; simp [h]
  ·right
   exact ⟨c,hc,by omega⟩
theorem Apm {a:Pt} {ns:List ByteArray} {r:Nat} (hi:Inc ns) (h8:r<=8) (h:AtR (r:Nat) ns ((r:Int) == 0) a):radF a=r:=by
 obtain ⟨rfl,h2,h3⟩:=h
 have hle:radF a<=r:=(Lo hi r).2 fun c hc=>by
  have:=(Jw (by omega) (by omega)).1 (h2 c hc)
  omega
 rcases h3 with h3|⟨x,hx,h3⟩
 ·have:r=0:=by simpa using h3
  omega
 ·have:=(Lo hi (radF a)).1 (Nat.le_refl _) x hx
  omega
theorem Xw {sat:Pt->Bool} {ns:List ByteArray} : ∀ {k j:Nat} {p:Pt},Ge sat ns j k=some p->∃ r:Nat,j<=r/\r<j+k/\A6 sat (r:Int) ns [] ((r:Int) == 0)=some p/\∀ i:Nat,j<=i->i<r->A6 sat (i:Int) ns [] ((i:Int) == 0)=none
 | 0,j,p,h=>by simp [Ge] at h
 | k+1,j,p,h=>by
  rw [Ge] at h
  cases hs:A6 sat (j:Int) ns [] ((j:Int) == 0) with
  | some q =>
   rw [hs] at h
   simp only [Option.some.injEq] at h
   subst h
   exact ⟨j,Nat.le_refl _,by omega,hs,fun i h1 h2=>by omega⟩
  | none =>
   rw [hs] at h
   obtain ⟨r,h1,h2,h3,h4⟩:=Xw h
   refine ⟨r,by omega,by omega,h3,fun i h5 h6=>?_⟩
   by_cases he:i=j
   ·subst he; exact hs
   ·exact h4 i (by omega) h6
theorem Xv {sat:Pt->Bool} {ns:List ByteArray} : ∀ {k j:Nat} {p:Pt},Ge sat ns j k=some p->Ge sat ns j (k+1)=some p
 | 0,j,p,h=>by simp [Ge] at h
 | k+1,j,p,h=>by
  rw [Ge] at h ⊢
  cases hs:A6 sat (j:Int) ns [] ((j:Int) == 0) with
  | some q=>rw [hs] at h; exact h
  | none=>rw [hs] at h; exact Xv h
def insF (most:Int):Pt->List ByteArray->Bool
 | [],[]=>true
 | c :: p,s :: ns=>(sEq c.1 s && (decide (c.2 >= -most) && decide (c.2<=most))) && insF most p ns
 | _,_=>false
theorem Vg {most:Int} : ∀ {p:Pt} {ns:List ByteArray},insF most p ns=true↔p.map (·.1)=ns/\∀ c ∈ p,-most<=c.2/\c.2<=most
 | [],[]=>by simp [insF]
 | [],_ :: _=>by simp [insF]
 | _ :: _,[]=>by simp [insF]
 | c :: p,s :: ns=>by
  have he:sEq c.1 s=true↔c.1=s:=by rw [Gj]; simp
  simp only [insF,Bool.and_eq_true,decide_eq_true_eq,he,Vg (p:=p),List.map_cons,List.cons.injEq,List.mem_cons,forall_eq_or_imp]
  constructor
  ·rintro ⟨⟨h1,h2,h3⟩,h4,h5⟩; exact ⟨⟨h1,h4⟩,⟨h2,h3⟩,h5⟩
  ·rintro ⟨⟨h1,h4⟩,⟨h2,h3⟩,h5⟩; exact ⟨⟨h1,h2,h3⟩,h4,h5⟩
theorem Alt (l:List RowT):Inc (A4 l):=(G3 _).1
theorem Acd {l:List RowT} {most:Int} (h:okF l most=true):sysE l=0/\0<=most/\most<=8/\(A4 l).length<=6:=by
 unfold okF at h
 simp only [Bool.and_eq_true,decide_eq_true_eq] at h
 exact ⟨h.1.1.1,h.1.1.2,h.1.2,h.2⟩
theorem Agy {l:List RowT} {most:Int} {q:Pt} (h:fndF l most=some q):okF l most=true/\satF l q=true/\insF most q (A4 l)=true /\
  (∀ p,insF most p (A4 l)=true->satF l p=true->ordF q p<=0)/\(most<=7->fndF l (most+1)=some q):=by
 unfold fndF at h
 split at h
 rotate_left
 ·cases h
 rename_i hok
 obtain ⟨o1,o2,o3,o4⟩:=Acd hok
 have hi:=Alt l
 obtain ⟨r,h1,h2,h3,h4⟩:=Xw h
 obtain ⟨g1,ext,g2,g3,g4,g5⟩:=Jc h3
 simp only [List.nil_append] at g2
 subst g2
 have jb:AtR (r:Nat) (A4 l) ((r:Int) == 0) q:=⟨g3,g4,g5⟩
 have hr:=Apm hi (by omega) jb
 have hq:=(Lo (g3 ▸ hi) r).1 (by omega)
 refine ⟨hok,g1,Vg.2 ⟨g3,fun c hc=>by have:=hq c hc; omega⟩,fun p hp hs=>?_,fun h7=>?_⟩
 ·obtain ⟨p1,p2⟩:=Vg.1 hp
  have mc:Inc (p.map (·.1)):=p1 ▸ hi
  have j8:radF p<=most.toNat:=(Lo mc _).2 fun c hc=>by have:=p2 c hc; omega
  have hown:=Apl hi p1 (by omega)
  have c9:r<=radF p:=by
   refine Decidable.byContradiction fun hlt=>?_
   have:=Lr (h4 (radF p) (by omega) (by omega)) p hown
   rw [List.nil_append,hs] at this
   cases this
  by_cases heq:radF p=r
  ·rw [heq] at hown
   rcases N3 (pt:=[]) (ext:=q) h3 hown hs with rfl|zu
   ·rw [Ak6]; omega
   ·obtain ⟨s,b1,b2⟩:=X7 hi g3 p1 zu
    exact Amd (.inl (.inr ⟨by omega,s,b1,b2⟩))
  ·exact Amd (.inl (.inl (by omega)))
 ·unfold fndF
  have j4:okF l (most+1)=true:=by
   unfold okF
   simp only [Bool.and_eq_true,decide_eq_true_eq]
   exact ⟨⟨⟨o1,by omega⟩,by omega⟩,o4⟩
  rw [if_pos j4]
  have:(most+1).toNat+1=(most.toNat+1)+1:=by omega
  rw [this]
  exact Xv h
def Adw (i:Nat):List ByteArray->ByteArray->Int
 | [],_=>-1
 | x :: l,s=>if sEq x s then i else Adw (i+1) l s
theorem Qh:∀ {l:List ByteArray} {s:ByteArray} {i:Nat},s ∈ l->∃ j,j<l.length/\Adw i l s=((i+j:Nat):Int)/\nth l j=some s
 | [],_,_,h=>by simp at h
 | x :: l,s,i,h=>by
  by_cases hx:sEq x s=true
  ·refine ⟨0,by simp,?_,?_⟩
   ·unfold Adw; rw [if_pos hx]; rfl
   ·have:x=s:=by rw [Gj] at hx; simpa using hx
    rw [this]; rfl
  ·rcases List.mem_cons.1 h with rfl|h
   ·exact absurd (by rw [Gj]; simp) hx
   ·obtain ⟨j,h1,h2,h3⟩:=Qh (i:=i+1) h
    refine ⟨j+1,by simpa using h1,?_,h3⟩
    unfold Adw; rw [if_neg hx,h2]; congr 1; omega
def idxV (vars:List ByteArray) (s:ByteArray):Nat:=(Adw 0 vars s).toNat
theorem Ab0 {l:List ByteArray} {s:ByteArray} (h:s ∈ l):Adw 0 l s=((idxV l s:Nat):Int)/\idxV l s<l.length:=by
 obtain ⟨j,h1,h2,h3⟩:=Qh (i:=0) h
 unfold idxV
 rw [h2]
 exact ⟨by omega,by omega⟩
def setC (F:Fld) (u z:Q) (ix:Nat) (row:List Q) (n:Int):List Q × Bool :=
 (put (put row (2*ix) (F.times u (F.whole n).1).1) (2*ix+1) (F.minus z (F.times u (F.whole n).1).1).1,((F.whole n).2 || (F.times u (F.whole n).1).2) || (F.minus z (F.times u (F.whole n).1).1).2)
def coefsC (F:Fld) (u z:Q) (vars:List ByteArray):List (ByteArray × Int)->List Q->List Q × Bool
 | [],row=>(row,false)
 | c :: cs,row=>((coefsC F u z vars cs (setC F u z (idxV vars c.1) row c.2).1).1,(setC F u z (idxV vars c.1) row c.2).2 || (coefsC F u z vars cs (setC F u z (idxV vars c.1) row c.2).1).2)
def Adu (F:Fld) (real W k:Nat) (c r:Q):Q × Bool:=if k<real\/k=W - 1 then F.minus c r else (c,false)
def costL (F:Fld) (real W:Nat):Nat->List Q->List Q->List Q × Bool
 | k,c :: cs,r :: rs=>((Adu F real W k c r).1 :: (costL F real W (k+1) cs rs).1,(Adu F real W k c r).2 || (costL F real W (k+1) cs rs).2)
 | _,cs,_=>(cs,false)
def N8 (F:Fld) (flip:Bool):Q × Bool:=if flip=true then ((F.whole (-1)).1,(F.whole 1).2 || (F.whole (-1)).2) else F.whole 1
def Apz (F:Fld) (u z:Q) (n:Int):Q × Bool:=((F.minus z (F.times u (F.whole n).1).1).1,((F.whole n).2 || (F.times u (F.whole n).1).2) || (F.minus z (F.times u (F.whole n).1).1).2)
def Yu (eq:Bool) (row:List Q) (slack:Nat) (u:Q):List Q:=if eq=true then row else put row slack u
def Mb (r:RowT):Bool:=decide (0<r.2.1)
def rowF (F:Fld) (z:Q) (vars:List ByteArray) (real W i slack:Nat) (r:RowT):List Q × Bool :=
 let u:=N8 F (Mb r)
 let a:=coefsC F u.1 z vars r.1 (List.replicate W z)
 let y:=Apz F u.1 z r.2.1
 (put (put (Yu r.2.2 a.1 slack u.1) (real+i) (F.whole 1).1) (W - 1) y.1,((u.2 || a.2) || (F.whole 1).2) || y.2)
def neqs:List RowT->Nat
 | []=>0
 | r :: l=>(if r.2.2=true then 0 else 1)+neqs l
def L9:Code->Nat
 | .seq a _=>L9 a
 | .region id _ _=>id
 | .block _ c=>L9 c
 | .loop c=>L9 c
 | .scope c=>L9 c
 | _=>0
def Jv (n:Nat):Code->List Nat->List Kont->Option (Code × List Kont)
 | .seq a b,lv,k=>match Jv n a lv (.seq b :: k) with|some r=>some r|none=>Jv n b lv k
 | .block id c,lv,k=>Jv n c lv (.block id :: k)
 | .scope c,lv,k=>Jv n c lv k
 | .cond _ a b,lv,k=>match Jv n a lv k with|some r=>some r|none=>Jv n b lv k
 | .loop c,lv,k=>if (L9 c == n)=true then some (.loop c,k) else match lv with
  | x :: lv=>Jv n c lv (.loop c x :: k)
  | []=>none
 | _,_,_=>none
def Ahn (fn:Func) (n:Nat) (lv:List Nat):Option (Code × List Kont):=match fn.body with|some c=>Jv n c lv []|none=>none
section
variable [Globs] {P:Program} [Ext P] {fn:Func}
noncomputable def KA (P:Program) [Ext P] (fn:Func) (n:Nat) (lv:List Nat) (st:St):Option (AV × St):=match Ahn fn n lv with|some (c,k)=>RK P fn c st k|none=>none
theorem Ajh {n:Nat} {lv:List Nat} {c:Code} {k:List Kont} (h:Ahn fn n lv=some (c,k)) {st:St} {fin:Option (AV × St)->Option Rs} {Φ:Rs->Prop} {t:Tag (c,k)} (hg:Gd fin Φ (KX P fn c st k t)):Gd fin Φ (KA P fn n lv st):=by unfold KA; rw [h]; exact hg
theorem Ahz {n:Nat} {lv:List Nat} {c:Code} {k:List Kont} (h:Ahn fn n lv=some (c,k)) {st:St} {fin:Option (AV × St)->Option Rs} {Φ:Rs->Prop} {t:Tag (c,k)} (hg:Gd fin Φ (KA P fn n lv st)):Gd fin Φ (KX P fn c st k t):=by unfold KA at hg; rw [h] at hg; exact hg
end
section
variable {P:Program} {t:TypeId} {x:AV} {S:List Ent} {n:Nat}
theorem Aky {a b c d e:Nat} : lit1 1 1 [(0,.sref a b c d e)]=some (.lit 1 [.sref a b c d e]):=rfl
end
structure BegC (S:List Ent) (l:List RowT) (vars:List ByteArray) (iq c W:Nat):Prop where
 hl:l.length<=1000
 ip:vars.length<=1000
 hv:∀ r ∈ l,∀ c ∈ r.1,c.1 ∈ vars
 hc:∀ r ∈ l,i64 r.2.1/\∀ c ∈ r.1,i64 c.2
 hfew:fewC l
 hiq:iq<S.length
 hcr:c=2*vars.length+neqs l
 ro:W=c+l.length+1
theorem Aab {P:Program} {all:List Oper} {d:Option Tmp} {T:List AV} {S S':List Ent} (hL:loadsB all d=[]) (h2:S.length<=S'.length):reA P all d T S S'=some ():=Acl hL h2 (fun q h=>by simp at h)
def Tj (t t':Tb):Prop:=t'.real=t.real/\t'.vars=t.vars/\t'.cost.length=t.cost.length/\t'.rows.length=t.rows.length
theorem Tj.refl (t:Tb):Tj t t:=⟨rfl,rfl,rfl,rfl⟩
theorem Tj.trans {a b c:Tb} (h:Tj a b) (h':Tj b c):Tj a c:=⟨h'.1.trans h.1,h'.2.1.trans h.2.1,h'.2.2.1.trans h.2.2.1,h'.2.2.2.trans h.2.2.2⟩
theorem Abi {F:Fld} {real W:Nat} : ∀ {c r:List Q} {k:Nat},(costL F real W k c r).1.length=c.length
 | [],_,_=>by simp [costL]
 | a :: c,[],_=>rfl
 | a :: c,b :: r,k=>by simp only [costL,List.length_cons,Abi]
structure Ans where
 f:Bool
 pt:List Q
 nu:List Q
 least:Option (Q × Bool)
end
section
open Go Tryz
def tS (a:Q):Bool:=smB a.1 && smB a.2
def tN (a:Q):Int:=if tS a=true then a.1 else 0
def tD (a:Q):Int:=if tS a=true then a.2 else 0
def tO (a:Q):Bool:=tS a && decide (0<a.2)
section
variable (S:List Ent) (tk:List Nat) (k:Nat)
set_option maxRecDepth 100000 in
set_option maxHeartbeats 2000000 in
theorem G7 (a:Q) (ha:okW a):cL prog 78 [.agg (ceW a)] S tk k=some (.tup [.int (tN a),.int (tD a),.bool (tO a)],S,tk,k):=by
 obtain ⟨l1,l2⟩:=Ja ha
 have h0:0<=a.2:=by
  rcases ha with h|h
  ·have:=h.pos; omega
  ·rw [h]; exact Int.le_refl 0
 obtain ⟨an,ad⟩:=a
 simp only at l1 l2 h0
 simp only [ceW,digA]
 refine opP func78 ntmps78 (hp3:=rfl) ?_
 by_cases hs1:(dig an.natAbs).length<=2
 ·have b1:smB an=true:=by simp [smB]; omega
  have d1:decide (((dig an.natAbs).length:Int) > 2)=false:=by simp; omega
  by_cases hs2:(dig ad.natAbs).length<=2
  ·have b2:smB ad=true:=by simp [smB]; omega
   have d2:decide (((dig ad.natAbs).length:Int) > 2)=false:=by simp; omega
   have e1:tN (an,ad)=an:=by simp [tN,tS,b1,b2]
   have e2:tD (an,ad)=ad:=by simp [tD,tS,b1,b2]
   have e3:tO (an,ad)=decide (0<ad):=by simp [tO,tS,b1,b2]
   rw [e1,e2,e3]
   have x1:=Acy b1
   have x2:=Acy b2
   have d3:=Hj (n:=(dig an.natAbs).length) (by omega)
   have d4:=Hj (n:=(dig ad.natAbs).length) (by omega)
   simp (maxSteps:=10^6)+contextual(disch:=try exact dqd)only[ev1,simprocAttr,AV.int,AV.bool,AV.str,results78,d1,d2,d3]
   refine loop1 (P:=prog) (fun x st=>st.T.length=66/\(x.1<=(dig an.natAbs).length)/\(x.2=((topV (dig an.natAbs) x.1:Nat):Int))/\getT st.T 1=.ref 0 0 0/\getT st.T 5=.int x.2/\getT st.T 6=.int 0/\getT st.T 7=.int ((x.1:Int) - 1)/\st.S=[⟨0,[.prim (.bool (decide (an<0))),.frz ((dig an.natAbs).map digC) .unk,.prim (.bool (decide (ad<0))),.frz ((dig ad.natAbs).map digC) .unk]⟩]) (fun x=>x.1) (fun x=>.tup [.int an,.int ad,.bool (decide (0<ad))]) ((dig an.natAbs).length,(0:Int)) ?_ ?_
   case refine_2=>exact ⟨rfl,Nat.le_refl _,by rw [Ac1]; rfl,rfl,rfl,rfl,rfl,rfl⟩
   rintro ⟨n,v⟩ ⟨T,S',tk',n'⟩ ⟨hl,hn,hv,e1,e5,e6,e7,eS⟩ IH
   simp only at hn hv e1 e5 e6 e7 eS
   subst eS
   obtain ⟨g,hg,hT⟩:=Ap hl
   rw [hg] at e1 e5 e6 e7
   subst hT
   clear hg hl
   subst hv
   by_cases hn0:n=0
   ·subst hn0
    have g2:decide (((0:Nat):Int) - 1 >= 0)=false:=rfl
    have ht:topV (dig an.natAbs) 0=an.natAbs:=by unfold topV; rw [List.drop_zero,Bj]; rfl
    rw [ht] at e5
    simp (maxSteps:=10^6)+contextual(disch:=try exact dqd)only[ev1,simprocAttr,AV.int,AV.bool,AV.str,results78,e1,e5,e6,e7,g2,d4]
    refine loop1 (P:=prog) (fun x st=>st.T.length=66/\(x.1<=(dig ad.natAbs).length)/\(x.2=((topV (dig ad.natAbs) x.1:Nat):Int))/\getT st.T 1=.ref 0 0 0/\getT st.T 5=.int (an.natAbs:Nat)/\getT st.T 6=.int x.2/\getT st.T 8=.int ((x.1:Int) - 1)/\st.S=[⟨0,[.prim (.bool (decide (an<0))),.frz ((dig an.natAbs).map digC) .unk,.prim (.bool (decide (ad<0))),.frz ((dig ad.natAbs).map digC) .unk]⟩]) (fun x=>x.1) (fun x=>.tup [.int an,.int ad,.bool (decide (0<ad))]) ((dig ad.natAbs).length,(0:Int)) ?_ ?_
    case refine_2=>exact ⟨rfl,Nat.le_refl _,by rw [Ac1]; rfl,rfl,rfl,rfl,rfl,rfl⟩
    rintro ⟨n,v⟩ ⟨T,S',tk',n'⟩ ⟨hl,hn,hv,e1,e5,e6,e8,eS⟩ IH
    simp only at hn hv e1 e5 e6 e8 eS
    subst eS
    obtain ⟨g,hg,hT⟩:=Ap hl
    rw [hg] at e1 e5 e6 e8
    subst hT
    clear hg hl
    subst hv
    by_cases hn0:n=0
    ·subst hn0
     have g2:decide (((0:Nat):Int) - 1 >= 0)=false:=rfl
     have ht:topV (dig ad.natAbs) 0=ad.natAbs:=by unfold topV; rw [List.drop_zero,Bj]; rfl
     have hz:((ad.natAbs:Nat):Int)=ad:=by omega
     rw [ht,hz] at e6
     have g3:decide (ad > 0)=decide (0<ad):=rfl
     by_cases hneg:an<0
     ·have g4:decide (an<0)=true:=by simpa using hneg
      have v3:IntKind.i64.wrap (0 - ((an.natAbs:Nat):Int))=an:=by rw [Ad (by unfold i64; omega)]; omega
      have v4:IntKind.i64.wrap (-((an.natAbs:Nat):Int))=an:=by rw [Ad (by unfold i64; omega)]; omega
      simp (maxSteps:=10^6)+contextual(disch:=try exact dqd)only[ev1,simprocAttr,AV.int,AV.bool,AV.str,results78,e1,e5,e6,e8,g2,g3,g4,v3,v4]
     ·have g4:decide (an<0)=false:=by simpa using hneg
      have hz2:((an.natAbs:Nat):Int)=an:=by omega
      rw [hz2] at e5
      simp (maxSteps:=10^6)+contextual(disch:=try exact dqd)only[ev1,simprocAttr,AV.int,AV.bool,AV.str,results78,e1,e5,e6,e8,g2,g3,g4]
    ·have g2:decide ((n:Int) - 1 >= 0)=true:=by simp; omega
     have hi:(n:Int) - 1=((n - 1:Nat):Int):=by omega
     obtain ⟨x,hx⟩:=Ab (show n - 1<(dig ad.natAbs).length by omega)
     have hx':=B9 hx
     have hxk:=D6 (Ba ad.natAbs) hx
     have ai:=Rr (Ba ad.natAbs) hx
     rw [show n - 1+1=n by omega] at ai
     have hb1:=V5 (a:=ad.natAbs) (k:=n)
     have hb2:=V5 (a:=ad.natAbs) (k:=n - 1)
     have hp:=Hj (n:=n - 1) (by omega)
     have hw1:IntKind.i64.wrap (10000*(topV (dig ad.natAbs) n:Int))=10000*(topV (dig ad.natAbs) n:Int):=Ad (by unfold i64; omega)
     have hw2:IntKind.i64.wrap (10000*(topV (dig ad.natAbs) n:Int)+x)=((topV (dig ad.natAbs) (n - 1):Nat):Int):=by
      rw [Ad (by unfold i64; omega)]; omega
     rw [hi] at e8 g2
     simp (maxSteps:=10^6)+contextual(disch:=try exact dqd)only[ev1,simprocAttr,AV.int,AV.bool,AV.str,results78,e1,e5,e6,e8,g2,hx',hp,hw1,hw2]
     exact IH (n - 1,((topV (dig ad.natAbs) (n - 1):Nat):Int)) _ (by first|omega|(simp only; omega)) ⟨rfl,by first|omega|(dsimp only; omega),rfl,(by first|rfl|simp only [getT,List.map_append]),(by first|rfl|simp only [getT,List.map_append]),(by first|rfl|simp only [getT,List.map_append]),(by first|rfl|simp only [getT,List.map_append]),(by first|rfl|simp only [getT,List.map_append])⟩
   ·have g2:decide ((n:Int) - 1 >= 0)=true:=by simp; omega
    have hi:(n:Int) - 1=((n - 1:Nat):Int):=by omega
    obtain ⟨x,hx⟩:=Ab (show n - 1<(dig an.natAbs).length by omega)
    have hx':=B9 hx
    have hxk:=D6 (Ba an.natAbs) hx
    have ai:=Rr (Ba an.natAbs) hx
    rw [show n - 1+1=n by omega] at ai
    have hb1:=V5 (a:=an.natAbs) (k:=n)
    have hb2:=V5 (a:=an.natAbs) (k:=n - 1)
    have hp:=Hj (n:=n - 1) (by omega)
    have hw1:IntKind.i64.wrap (10000*(topV (dig an.natAbs) n:Int))=10000*(topV (dig an.natAbs) n:Int):=Ad (by unfold i64; omega)
    have hw2:IntKind.i64.wrap (10000*(topV (dig an.natAbs) n:Int)+x)=((topV (dig an.natAbs) (n - 1):Nat):Int):=by
     rw [Ad (by unfold i64; omega)]; omega
    rw [hi] at e7 g2
    simp (maxSteps:=10^6)+contextual(disch:=try exact dqd)only[ev1,simprocAttr,AV.int,AV.bool,AV.str,results78,e1,e5,e6,e7,g2,hx',hp,hw1,hw2]
    exact IH (n - 1,((topV (dig an.natAbs) (n - 1):Nat):Int)) _ (by first|omega|(simp only; omega)) ⟨rfl,by first|omega|(dsimp only; omega),rfl,(by first|rfl|simp only [getT,List.map_append]),(by first|rfl|simp only [getT,List.map_append]),(by first|rfl|simp only [getT,List.map_append]),(by first|rfl|simp only [getT,List.map_append]),(by first|rfl|simp only [getT,List.map_append])⟩
  ·have b2:smB ad=false:=by simp [smB]; omega
   have d2:decide (((dig ad.natAbs).length:Int) > 2)=true:=by simp; omega
   have e1:tN (an,ad)=0:=by simp [tN,tS,b1,b2]
   have e2:tD (an,ad)=0:=by simp [tD,tS,b1,b2]
   have e3:tO (an,ad)=false:=by simp [tO,tS,b1,b2]
   rw [e1,e2,e3]
   simp (maxSteps:=10^6)+contextual(disch:=try exact dqd)only[ev1,simprocAttr,AV.int,AV.bool,AV.str,results78,d1,d2]
 ·have b1:smB an=false:=by simp [smB]; omega
  have d1:decide (((dig an.natAbs).length:Int) > 2)=true:=by simp; omega
  have e1:tN (an,ad)=0:=by simp [tN,tS,b1]
  have e2:tD (an,ad)=0:=by simp [tD,tS,b1]
  have e3:tO (an,ad)=false:=by simp [tO,tS,b1]
  rw [e1,e2,e3]
  simp (maxSteps:=10^6)+contextual(disch:=try exact dqd)only[ev1,simprocAttr,AV.int,AV.bool,AV.str,results78,d1]
set_option maxRecDepth 100000 in
set_option maxHeartbeats 2000000 in
theorem Lz (a:Q):cL prog 59 [.agg (ceW a)] S tk k=some (.int (sgn a),S,tk,k):=by
 obtain ⟨an,ad⟩:=a
 simp only [ceW,digA]
 refine opP func59 ntmps59 (hp3:=rfl) ?_
 unfold sgn
 simp only
 by_cases h:an<0
 ·have d1:decide (an<0)=true:=by simpa using h
  rw [if_pos h]
  simp (maxSteps:=10^6)+contextual(disch:=try exact dqd)only[ev1,simprocAttr,AV.int,AV.bool,AV.str,results59,d1]
 ·have d1:decide (an<0)=false:=by simpa using h
  rw [if_neg h]
  have hl:dig an.natAbs=[]↔an.natAbs=0:=Gc
  by_cases h0:an=0
  ·subst h0
   rw [if_neg (by omega)]
   have d2:(((dig 0).length:Int) == 0)=true:=by rw [Dc]; rfl
   simp (maxSteps:=10^6)+contextual(disch:=try exact dqd)only[ev1,simprocAttr,AV.int,AV.bool,AV.str,results59,d1,d2]
  ·rw [if_pos (by omega)]
   have d2:(((dig an.natAbs).length:Int) == 0)=false:=by
    have:dig an.natAbs≠[]:=fun e=>by have:=hl.1 e; omega
    have:=List.length_pos_iff.2 this
    simp; omega
   simp (maxSteps:=10^6)+contextual(disch:=try exact dqd)only[ev1,simprocAttr,AV.int,AV.bool,AV.str,results59,d1,d2]
set_option maxRecDepth 100000 in
set_option maxHeartbeats 2000000 in
theorem M8 (n d:Int) (hn:n.natAbs<=100000000000000000) (hd:d.natAbs<=100000000000000000) (cu:d≠0):cL prog 79 [.int n,.int d] S tk k=some (.agg (ceW (lowN n d,lowD n d)),S,tk,k):=by
 refine opP func79 ntmps79 (hp3:=rfl) ?_
 obtain ⟨N,hN⟩:∃ N,N=if d<0 then -n else n:=⟨_,rfl⟩
 obtain ⟨D,hD⟩:∃ D:Nat,D=d.natAbs:=⟨_,rfl⟩
 obtain ⟨g,hg⟩:∃ g:Nat,g=n.natAbs.gcd d.natAbs:=⟨_,rfl⟩
 have xo:N.natAbs=n.natAbs:=by subst hN; split <;> omega
 have nh:g≠0:=by have:=Nat.gcd_pos_of_pos_right n.natAbs (show 0<d.natAbs by omega); omega
 have f1:lowN n d=N.tdiv ((g:Nat):Int):=by unfold lowN; rw [<- hN,<- hg]
 have f2:lowD n d=((D:Nat):Int).tdiv ((g:Nat):Int):=by
  unfold lowD
  rw [<- hg,<- hD,Int.tdiv_eq_ediv_of_nonneg (by omega)]; rfl
 obtain ⟨res,hr⟩:∃ r:Q,r=(lowN n d,lowD n d):=⟨_,rfl⟩
 rw [<- hr]
 rw [f1,f2] at hr
 by_cases hneg:d<0
 ·have d1:decide (d<0)=true:=by simpa using hneg
  have w1':IntKind.i64.wrap (0 - n)=N:=by rw [hN,if_pos hneg,Ad (by unfold i64; omega)]; omega
  have w2':IntKind.i64.wrap (0 - d)=((D:Nat):Int):=by rw [hD,Ad (by unfold i64; omega)]; omega
  by_cases hn0:N<0
  ·have d2:decide (N<0)=true:=by simpa using hn0
   have w3':IntKind.i64.wrap (0 - N)=((N.natAbs:Nat):Int):=by rw [Ad (by unfold i64; omega)]; omega
   simp (maxSteps:=10^6)+contextual(disch:=try exact dqd)only[ev1,simprocAttr,AV.int,AV.bool,AV.str,results79,d1,w1',w2',d2,w3']
   refine loop1 (P:=prog) (fun x st=>st.T.length=34/\(x.1.gcd x.2=g)/\(x.1<=100000000000000000)/\(x.2<=100000000000000000)/\getT st.T 0=.int N/\getT st.T 1=.int (D:Nat)/\getT st.T 4=.ref 0 0 0/\getT st.T 5=.int (x.1:Nat)/\getT st.T 6=.int (x.2:Nat)/\st.S=[⟨0,[.prim (.bool false),.frz [] .nilc,.prim (.bool false),.frz [] .nilc]⟩]) (fun x=>x.2) (fun x=>.agg (ceW res)) (N.natAbs,D) ?_ ?_
   case refine_2=>exact ⟨rfl,by rw [xo,hD,hg],by omega,by omega,rfl,rfl,rfl,rfl,rfl,rfl⟩
   rintro ⟨x,y⟩ ⟨T,S',tk',n'⟩ ⟨hl,f8,hx,hy,e0,e1,e4,e5,e6,eS⟩ IH
   simp only at f8 hx hy e0 e1 e4 e5 e6 eS
   subst eS
   obtain ⟨g,hg,hT⟩:=Ap hl
   rw [hg] at e0 e1 e4 e5 e6
   subst hT
   clear hg hl
   by_cases h0:y=0
   ·subst h0
    have c1:(((0:Nat):Int) != 0)=false:=rfl
    rw [Nat.gcd_zero_right] at f8
    subst f8
    have hz:¬ ((x:Int)=0):=by omega
    have v1:=Bx N x
    have v2:=Bx (D:Int) x
    have w5:IntKind.i64.wrap (N.tdiv (x:Int))=N.tdiv (x:Int):=Ad (by unfold i64; omega)
    have w6:IntKind.i64.wrap ((D:Int).tdiv (x:Int))=(D:Int).tdiv (x:Int):=Ad (by unfold i64; omega)
    have hA:=fun S tk k=>Lw S tk k (N.tdiv (x:Int)) (by unfold i64; omega)
    have hB:=fun S tk k=>Lw S tk k ((D:Int).tdiv (x:Int)) (by unfold i64; omega)
    simp only [zA,bigA,digA] at hA hB
    simp (maxSteps:=10^6)+contextual(disch:=try exact dqd)only[ev1,simprocAttr,AV.int,AV.bool,AV.str,results79,e0,e1,e4,e5,e6,c1,hz,w5,w6,hA,hB,xF]
    rw [hr]
    rfl
   ·have c1:((y:Int) != 0)=true:=by simp; omega
    have hz:¬ ((y:Int)=0):=by omega
    have hm:IntKind.i64.wrap ((x:Int).tmod (y:Int))=((x % y:Nat):Int):=by
     have h1:(x:Int).tmod (y:Int)=((x % y:Nat):Int):=by rw [Int.tmod_eq_emod_of_nonneg (by omega)]; rfl
     have h2:x % y<y:=Nat.mod_lt _ (by omega)
     rw [h1,Ad (by unfold i64; omega)]
    have hlt:x % y<y:=Nat.mod_lt _ (by omega)
    simp (maxSteps:=10^6)+contextual(disch:=try exact dqd)only[ev1,simprocAttr,AV.int,AV.bool,AV.str,results79,e0,e1,e4,e5,e6,c1,hz,hm]
    exact IH (y,x % y) _ (by first|omega|(simp only; omega)) ⟨rfl,by rw [Nat.gcd_comm,<- Nat.gcd_rec,Nat.gcd_comm]; exact f8,by first|omega|(dsimp only; omega),by first|omega|(dsimp only; omega),(by first|rfl|simp only [getT,List.map_append]),(by first|rfl|simp only [getT,List.map_append]),(by first|rfl|simp only [getT,List.map_append]),(by first|rfl|simp only [getT,List.map_append]),(by first|rfl|simp only [getT,List.map_append]),(by first|rfl|simp only [getT,List.map_append])⟩
  ·have d2:decide (N<0)=false:=by simpa using hn0
   simp (maxSteps:=10^6)+contextual(disch:=try exact dqd)only[ev1,simprocAttr,AV.int,AV.bool,AV.str,results79,d1,w1',w2',d2]
   obtain ⟨M,hM⟩:∃ M:Nat,N=M:=⟨N.natAbs,by omega⟩
   subst hM
   refine loop1 (P:=prog) (fun x st=>st.T.length=34/\(x.1.gcd x.2=g)/\(x.1<=100000000000000000)/\(x.2<=100000000000000000)/\getT st.T 0=.int (M:Int)/\getT st.T 1=.int (D:Nat)/\getT st.T 4=.ref 0 0 0/\getT st.T 5=.int (x.1:Nat)/\getT st.T 6=.int (x.2:Nat)/\st.S=[⟨0,[.prim (.bool false),.frz [] .nilc,.prim (.bool false),.frz [] .nilc]⟩]) (fun x=>x.2) (fun x=>.agg (ceW res)) ((M:Int).natAbs,D) ?_ ?_
   case refine_2=>exact ⟨rfl,by rw [xo,hD,hg],by omega,by omega,rfl,rfl,rfl,rfl,rfl,rfl⟩
   rintro ⟨x,y⟩ ⟨T,S',tk',n'⟩ ⟨hl,f8,hx,hy,e0,e1,e4,e5,e6,eS⟩ IH
   simp only at f8 hx hy e0 e1 e4 e5 e6 eS
   subst eS
   obtain ⟨g,hg,hT⟩:=Ap hl
   rw [hg] at e0 e1 e4 e5 e6
   subst hT
   clear hg hl
   by_cases h0:y=0
   ·subst h0
    have c1:(((0:Nat):Int) != 0)=false:=rfl
    rw [Nat.gcd_zero_right] at f8
    subst f8
    have hz:¬ ((x:Int)=0):=by omega
    have v1:=Bx (M:Int) x
    have v2:=Bx (D:Int) x
    have w5:IntKind.i64.wrap ((M:Int).tdiv (x:Int))=(M:Int).tdiv (x:Int):=Ad (by unfold i64; omega)
    have w6:IntKind.i64.wrap ((D:Int).tdiv (x:Int))=(D:Int).tdiv (x:Int):=Ad (by unfold i64; omega)
    have hA:=fun S tk k=>Lw S tk k ((M:Int).tdiv (x:Int)) (by unfold i64; omega)
    have hB:=fun S tk k=>Lw S tk k ((D:Int).tdiv (x:Int)) (by unfold i64; omega)
    simp only [zA,bigA,digA] at hA hB
    simp (maxSteps:=10^6)+contextual(disch:=try exact dqd)only[ev1,simprocAttr,AV.int,AV.bool,AV.str,results79,e0,e1,e4,e5,e6,c1,hz,w5,w6,hA,hB,xF]
    rw [hr]
    rfl
   ·have c1:((y:Int) != 0)=true:=by simp; omega
    have hz:¬ ((y:Int)=0):=by omega
    have hm:IntKind.i64.wrap ((x:Int).tmod (y:Int))=((x % y:Nat):Int):=by
     have h1:(x:Int).tmod (y:Int)=((x % y:Nat):Int):=by rw [Int.tmod_eq_emod_of_nonneg (by omega)]; rfl
     have h2:x % y<y:=Nat.mod_lt _ (by omega)
     rw [h1,Ad (by unfold i64; omega)]
    have hlt:x % y<y:=Nat.mod_lt _ (by omega)
    simp (maxSteps:=10^6)+contextual(disch:=try exact dqd)only[ev1,simprocAttr,AV.int,AV.bool,AV.str,results79,e0,e1,e4,e5,e6,c1,hz,hm]
    exact IH (y,x % y) _ (by first|omega|(simp only; omega)) ⟨rfl,by rw [Nat.gcd_comm,<- Nat.gcd_rec,Nat.gcd_comm]; exact f8,by first|omega|(dsimp only; omega),by first|omega|(dsimp only; omega),(by first|rfl|simp only [getT,List.map_append]),(by first|rfl|simp only [getT,List.map_append]),(by first|rfl|simp only [getT,List.map_append]),(by first|rfl|simp only [getT,List.map_append]),(by first|rfl|simp only [getT,List.map_append]),(by first|rfl|simp only [getT,List.map_append])⟩
 ·have d1:decide (d<0)=false:=by simpa using hneg
  have zw:n=N:=by rw [hN,if_neg hneg]
  have hDd:d=(D:Int):=by omega
  subst zw
  subst hDd
  by_cases hn0:n<0
  ·have d2:decide (n<0)=true:=by simpa using hn0
   have w3':IntKind.i64.wrap (0 - n)=((n.natAbs:Nat):Int):=by rw [Ad (by unfold i64; omega)]; omega
   simp (maxSteps:=10^6)+contextual(disch:=try exact dqd)only[ev1,simprocAttr,AV.int,AV.bool,AV.str,results79,d1,d2,w3']
   refine loop1 (P:=prog) (fun x st=>st.T.length=34/\(x.1.gcd x.2=g)/\(x.1<=100000000000000000)/\(x.2<=100000000000000000)/\getT st.T 0=.int n/\getT st.T 1=.int (D:Nat)/\getT st.T 4=.ref 0 0 0/\getT st.T 5=.int (x.1:Nat)/\getT st.T 6=.int (x.2:Nat)/\st.S=[⟨0,[.prim (.bool false),.frz [] .nilc,.prim (.bool false),.frz [] .nilc]⟩]) (fun x=>x.2) (fun x=>.agg (ceW res)) (n.natAbs,D) ?_ ?_
   case refine_2=>exact ⟨rfl,by rw [xo,hD,hg],by omega,by omega,rfl,rfl,rfl,rfl,rfl,rfl⟩
   rintro ⟨x,y⟩ ⟨T,S',tk',n'⟩ ⟨hl,f8,hx,hy,e0,e1,e4,e5,e6,eS⟩ IH
   simp only at f8 hx hy e0 e1 e4 e5 e6 eS
   subst eS
   obtain ⟨g,hg,hT⟩:=Ap hl
   rw [hg] at e0 e1 e4 e5 e6
   subst hT
   clear hg hl
   by_cases h0:y=0
   ·subst h0
    have c1:(((0:Nat):Int) != 0)=false:=rfl
    rw [Nat.gcd_zero_right] at f8
    subst f8
    have hz:¬ ((x:Int)=0):=by omega
    have v1:=Bx n x
    have v2:=Bx (D:Int) x
    have w5:IntKind.i64.wrap (n.tdiv (x:Int))=n.tdiv (x:Int):=Ad (by unfold i64; omega)
    have w6:IntKind.i64.wrap ((D:Int).tdiv (x:Int))=(D:Int).tdiv (x:Int):=Ad (by unfold i64; omega)
    have hA:=fun S tk k=>Lw S tk k (n.tdiv (x:Int)) (by unfold i64; omega)
    have hB:=fun S tk k=>Lw S tk k ((D:Int).tdiv (x:Int)) (by unfold i64; omega)
    simp only [zA,bigA,digA] at hA hB
    simp (maxSteps:=10^6)+contextual(disch:=try exact dqd)only[ev1,simprocAttr,AV.int,AV.bool,AV.str,results79,e0,e1,e4,e5,e6,c1,hz,w5,w6,hA,hB,xF]
    rw [hr]
    rfl
   ·have c1:((y:Int) != 0)=true:=by simp; omega
    have hz:¬ ((y:Int)=0):=by omega
    have hm:IntKind.i64.wrap ((x:Int).tmod (y:Int))=((x % y:Nat):Int):=by
     have h1:(x:Int).tmod (y:Int)=((x % y:Nat):Int):=by rw [Int.tmod_eq_emod_of_nonneg (by omega)]; rfl
     have h2:x % y<y:=Nat.mod_lt _ (by omega)
     rw [h1,Ad (by unfold i64; omega)]
    have hlt:x % y<y:=Nat.mod_lt _ (by omega)
    simp (maxSteps:=10^6)+contextual(disch:=try exact dqd)only[ev1,simprocAttr,AV.int,AV.bool,AV.str,results79,e0,e1,e4,e5,e6,c1,hz,hm]
    exact IH (y,x % y) _ (by first|omega|(simp only; omega)) ⟨rfl,by rw [Nat.gcd_comm,<- Nat.gcd_rec,Nat.gcd_comm]; exact f8,by first|omega|(dsimp only; omega),by first|omega|(dsimp only; omega),(by first|rfl|simp only [getT,List.map_append]),(by first|rfl|simp only [getT,List.map_append]),(by first|rfl|simp only [getT,List.map_append]),(by first|rfl|simp only [getT,List.map_append]),(by first|rfl|simp only [getT,List.map_append]),(by first|rfl|simp only [getT,List.map_append])⟩
  ·have d2:decide (n<0)=false:=by simpa using hn0
   simp (maxSteps:=10^6)+contextual(disch:=try exact dqd)only[ev1,simprocAttr,AV.int,AV.bool,AV.str,results79,d1,d2]
   obtain ⟨M,hM⟩:∃ M:Nat,n=M:=⟨n.natAbs,by omega⟩
   subst hM
   refine loop1 (P:=prog) (fun x st=>st.T.length=34/\(x.1.gcd x.2=g)/\(x.1<=100000000000000000)/\(x.2<=100000000000000000)/\getT st.T 0=.int (M:Int)/\getT st.T 1=.int (D:Nat)/\getT st.T 4=.ref 0 0 0/\getT st.T 5=.int (x.1:Nat)/\getT st.T 6=.int (x.2:Nat)/\st.S=[⟨0,[.prim (.bool false),.frz [] .nilc,.prim (.bool false),.frz [] .nilc]⟩]) (fun x=>x.2) (fun x=>.agg (ceW res)) ((M:Int).natAbs,D) ?_ ?_
   case refine_2=>exact ⟨rfl,by rw [xo,hD,hg],by omega,by omega,rfl,rfl,rfl,rfl,rfl,rfl⟩
   rintro ⟨x,y⟩ ⟨T,S',tk',n'⟩ ⟨hl,f8,hx,hy,e0,e1,e4,e5,e6,eS⟩ IH
   simp only at f8 hx hy e0 e1 e4 e5 e6 eS
   subst eS
   obtain ⟨g,hg,hT⟩:=Ap hl
   rw [hg] at e0 e1 e4 e5 e6
   subst hT
   clear hg hl
   by_cases h0:y=0
   ·subst h0
    have c1:(((0:Nat):Int) != 0)=false:=rfl
    rw [Nat.gcd_zero_right] at f8
    subst f8
    have hz:¬ ((x:Int)=0):=by omega
    have v1:=Bx (M:Int) x
    have v2:=Bx (D:Int) x
    have w5:IntKind.i64.wrap ((M:Int).tdiv (x:Int))=(M:Int).tdiv (x:Int):=Ad (by unfold i64; omega)
    have w6:IntKind.i64.wrap ((D:Int).tdiv (x:Int))=(D:Int).tdiv (x:Int):=Ad (by unfold i64; omega)
    have hA:=fun S tk k=>Lw S tk k ((M:Int).tdiv (x:Int)) (by unfold i64; omega)
    have hB:=fun S tk k=>Lw S tk k ((D:Int).tdiv (x:Int)) (by unfold i64; omega)
    simp only [zA,bigA,digA] at hA hB
    simp (maxSteps:=10^6)+contextual(disch:=try exact dqd)only[ev1,simprocAttr,AV.int,AV.bool,AV.str,results79,e0,e1,e4,e5,e6,c1,hz,w5,w6,hA,hB,xF]
    rw [hr]
    rfl
   ·have c1:((y:Int) != 0)=true:=by simp; omega
    have hz:¬ ((y:Int)=0):=by omega
    have hm:IntKind.i64.wrap ((x:Int).tmod (y:Int))=((x % y:Nat):Int):=by
     have h1:(x:Int).tmod (y:Int)=((x % y:Nat):Int):=by rw [Int.tmod_eq_emod_of_nonneg (by omega)]; rfl
     have h2:x % y<y:=Nat.mod_lt _ (by omega)
     rw [h1,Ad (by unfold i64; omega)]
    have hlt:x % y<y:=Nat.mod_lt _ (by omega)
    simp (maxSteps:=10^6)+contextual(disch:=try exact dqd)only[ev1,simprocAttr,AV.int,AV.bool,AV.str,results79,e0,e1,e4,e5,e6,c1,hz,hm]
    exact IH (y,x % y) _ (by first|omega|(simp only; omega)) ⟨rfl,by rw [Nat.gcd_comm,<- Nat.gcd_rec,Nat.gcd_comm]; exact f8,by first|omega|(dsimp only; omega),by first|omega|(dsimp only; omega),(by first|rfl|simp only [getT,List.map_append]),(by first|rfl|simp only [getT,List.map_append]),(by first|rfl|simp only [getT,List.map_append]),(by first|rfl|simp only [getT,List.map_append]),(by first|rfl|simp only [getT,List.map_append]),(by first|rfl|simp only [getT,List.map_append])⟩
end
structure Tiny (a:Q):Prop where
 n:tN a=a.1
 d:tD a=a.2
 l1:a.1.natAbs<100000000
 l2:a.2.natAbs<100000000
 pos:0<a.2
theorem J9 {a:Q} (h:tO a=true):Tiny a:=by
 simp only [tO,tS,Bool.and_eq_true,decide_eq_true_eq] at h
 have h1:tS a=true:=by simp [tS,h.1.1,h.1.2]
 exact ⟨by simp [tN,h1],by simp [tD,h1],Acy h.1.1,Acy h.1.2,h.2⟩
theorem Gr {x y:Int} (hx:x.natAbs<100000000) (hy:y.natAbs<100000000):(x*y).natAbs<=9999999800000001:=by
 rw [Int.natAbs_mul]
 exact Nat.le_trans (Nat.mul_le_mul (show x.natAbs<=99999999 by omega) (show y.natAbs<=99999999 by omega)) (by omega)
theorem Wd {n d:Int} (hn:n.natAbs<=100000000000000000) (hd:d.natAbs<=100000000000000000) (h0:d≠0):(wn n d).1=(lowN n d,lowD n d):=by
 have hf:=Adx hn hd h0
 unfold wn resN resD
 simp only [hf,if_true]
theorem J6 {a:Q} (h:Tiny a):qz a=a:=by
 have:=h.pos
 unfold qz; rw [if_neg (by omega)]
section
variable (S:List Ent) (tk:List Nat) (k:Nat)
set_option maxRecDepth 100000 in
set_option maxHeartbeats 2000000 in
theorem Afg (a b:Q) (ha:okW a) (hb:okW b):cL prog 57 [.agg (ceW a),.agg (ceW b)] S tk k=some (.agg (ceW (wF.minus a b).1),S,tk,k):=by
 obtain ⟨r,hr⟩:∃ r,r=(wF.minus a b).1:=⟨_,rfl⟩
 rw [<- hr]
 simp only [wF] at hr
 obtain ⟨l1,l2⟩:=Ja ha
 obtain ⟨l3,l4⟩:=Ja hb
 obtain ⟨g1,g2⟩:=qz_n ha
 obtain ⟨g3,g4⟩:=qz_n hb
 have az:=fun S tk k=>G7 S tk k a ha
 have ao:=fun S tk k=>G7 S tk k b hb
 obtain ⟨an,ad⟩:=a
 obtain ⟨bn,bd⟩:=b
 simp only at l1 l2 l3 l4 g1 g2 g3 g4
 refine opP func57 ntmps57 (hp3:=rfl) ?_
 cases h1:tO (an,ad) with
 | true =>
  have t1:=J9 h1
  have q1:=J6 t1
  have p1:=t1.pos
  have m1:=t1.l1
  have m2:=t1.l2
  rw [h1,t1.n,t1.d] at az
  simp only at p1 m1 m2
  cases h2:tO (bn,bd) with
  | true =>
   have t2:=J9 h2
   have q2:=J6 t2
   have p2:=t2.pos
   have m3:=t2.l1
   have m4:=t2.l2
   rw [h2,t2.n,t2.d] at ao
   simp only at p2 m3 m4
   have b1:=Gr m1 m4
   have b2:=Gr m3 m2
   have b3:=Gr m2 m4
   have hd:ad*bd≠0:=Int.mul_ne_zero (by omega) (by omega)
   rw [q1,q2] at hr
   simp only at hr
   rw [Int.neg_mul] at hr
   have e:an*bd+-(bn*ad)=an*bd - bn*ad:=by omega
   rw [e,Wd (by omega) (by omega) hd] at hr
   have hL:=fun S tk k=>M8 S tk k (an*bd - bn*ad) (ad*bd) (by omega) (by omega) hd
   rw [<- hr] at hL
   have v1:IntKind.i64.wrap (an*bd)=an*bd:=Ad (by unfold i64; omega)
   have v2:IntKind.i64.wrap (bn*ad)=bn*ad:=Ad (by unfold i64; omega)
   have v3:IntKind.i64.wrap (an*bd - bn*ad)=an*bd - bn*ad:=Ad (by unfold i64; omega)
   have v4:IntKind.i64.wrap (ad*bd)=ad*bd:=Ad (by unfold i64; omega)
   simp only [ceW,digA] at az ao hL ⊢
   simp (maxSteps:=10^6)+contextual(disch:=try exact dqd)only[ev1,simprocAttr,AV.int,AV.bool,AV.str,results57,az,ao,v1,v2,v3,v4,hL]
  | false =>
   rw [h2] at ao
   have hJ:=fun S tk k=>Ae6 S tk k (decide (an<0)) (dig an.natAbs) (decide (ad<0)) (dig ad.natAbs) (decide (bn<0)) (dig bn.natAbs) (decide (bd<0)) (dig bd.natAbs) (by omega) (by omega) (by omega) (by omega)
   rw [g1,g2,g3,g4] at hJ
   simp only [resQ,qA,ratA,ceW,digA] at az ao hJ ⊢
   simp (maxSteps:=10^6)+contextual(disch:=try exact dqd)only[ev1,simprocAttr,AV.int,AV.bool,AV.str,results57,az,ao,hJ]
   rw [hr]; exact ⟨rfl,rfl,rfl,rfl⟩
 | false =>
  rw [h1] at az
  have hJ:=fun S tk k=>Ae6 S tk k (decide (an<0)) (dig an.natAbs) (decide (ad<0)) (dig ad.natAbs) (decide (bn<0)) (dig bn.natAbs) (decide (bd<0)) (dig bd.natAbs) (by omega) (by omega) (by omega) (by omega)
  rw [g1,g2,g3,g4] at hJ
  simp only [resQ,qA,ratA,ceW,digA] at az ao hJ ⊢
  simp (maxSteps:=10^6)+contextual(disch:=try exact dqd)only[ev1,simprocAttr,AV.int,AV.bool,AV.str,results57,az,ao,hJ]
  rw [hr]; exact ⟨rfl,rfl,rfl,rfl⟩
set_option maxRecDepth 100000 in
set_option maxHeartbeats 2000000 in
theorem Ams (a b:Q) (ha:okW a) (hb:okW b):cL prog 125 [.agg (ceW a),.agg (ceW b)] S tk k=some (.agg (ceW (wF.times a b).1),S,tk,k):=by
 obtain ⟨r,hr⟩:∃ r,r=(wF.times a b).1:=⟨_,rfl⟩
 rw [<- hr]
 simp only [wF] at hr
 obtain ⟨l1,l2⟩:=Ja ha
 obtain ⟨l3,l4⟩:=Ja hb
 obtain ⟨g1,g2⟩:=qz_n ha
 obtain ⟨g3,g4⟩:=qz_n hb
 have az:=fun S tk k=>G7 S tk k a ha
 have ao:=fun S tk k=>G7 S tk k b hb
 obtain ⟨an,ad⟩:=a
 obtain ⟨bn,bd⟩:=b
 simp only at l1 l2 l3 l4 g1 g2 g3 g4
 refine opP func125 ntmps125 (hp3:=rfl) ?_
 cases h1:tO (an,ad) with
 | true =>
  have t1:=J9 h1
  have q1:=J6 t1
  have p1:=t1.pos
  have m1:=t1.l1
  have m2:=t1.l2
  rw [h1,t1.n,t1.d] at az
  simp only at p1 m1 m2
  cases h2:tO (bn,bd) with
  | true =>
   have t2:=J9 h2
   have q2:=J6 t2
   have p2:=t2.pos
   have m3:=t2.l1
   have m4:=t2.l2
   rw [h2,t2.n,t2.d] at ao
   simp only at p2 m3 m4
   have b1:=Gr m1 m3
   have b3:=Gr m2 m4
   have hd:ad*bd≠0:=Int.mul_ne_zero (by omega) (by omega)
   rw [q1,q2] at hr
   simp only at hr
   rw [Wd (by omega) (by omega) hd] at hr
   have hL:=fun S tk k=>M8 S tk k (an*bn) (ad*bd) (by omega) (by omega) hd
   rw [<- hr] at hL
   have v1:IntKind.i64.wrap (an*bn)=an*bn:=Ad (by unfold i64; omega)
   have v4:IntKind.i64.wrap (ad*bd)=ad*bd:=Ad (by unfold i64; omega)
   simp only [ceW,digA] at az ao hL ⊢
   simp (maxSteps:=10^6)+contextual(disch:=try exact dqd)only[ev1,simprocAttr,AV.int,AV.bool,AV.str,results125,az,ao,v1,v4,hL]
  | false =>
   rw [h2] at ao
   have hJ:=fun S tk k=>Ae5 S tk k (decide (an<0)) (dig an.natAbs) (decide (ad<0)) (dig ad.natAbs) (decide (bn<0)) (dig bn.natAbs) (decide (bd<0)) (dig bd.natAbs) (by omega) (by omega) (by omega) (by omega)
   rw [g1,g2,g3,g4] at hJ
   simp only [resQ,qA,ratA,ceW,digA] at az ao hJ ⊢
   simp (maxSteps:=10^6)+contextual(disch:=try exact dqd)only[ev1,simprocAttr,AV.int,AV.bool,AV.str,results125,az,ao,hJ]
   rw [hr]; exact ⟨rfl,rfl,rfl,rfl⟩
 | false =>
  rw [h1] at az
  have hJ:=fun S tk k=>Ae5 S tk k (decide (an<0)) (dig an.natAbs) (decide (ad<0)) (dig ad.natAbs) (decide (bn<0)) (dig bn.natAbs) (decide (bd<0)) (dig bd.natAbs) (by omega) (by omega) (by omega) (by omega)
  rw [g1,g2,g3,g4] at hJ
  simp only [resQ,qA,ratA,ceW,digA] at az ao hJ ⊢
  simp (maxSteps:=10^6)+contextual(disch:=try exact dqd)only[ev1,simprocAttr,AV.int,AV.bool,AV.str,results125,az,ao,hJ]
  rw [hr]; exact ⟨rfl,rfl,rfl,rfl⟩
set_option maxRecDepth 100000 in
set_option maxHeartbeats 2000000 in
theorem Y6 (a b:Q) (ha:okW a) (hb:okW b):cL prog 103 [.agg (ceW a),.agg (ceW b)] S tk k=some (.agg (ceW (wF.over a b).1),S,tk,k):=by
 obtain ⟨r,hr⟩:∃ r,r=(wF.over a b).1:=⟨_,rfl⟩
 rw [<- hr]
 simp only [wF] at hr
 obtain ⟨l1,l2⟩:=Ja ha
 obtain ⟨l3,l4⟩:=Ja hb
 obtain ⟨g1,g2⟩:=qz_n ha
 obtain ⟨g3,g4⟩:=qz_n hb
 have az:=fun S tk k=>G7 S tk k a ha
 have ao:=fun S tk k=>G7 S tk k b hb
 obtain ⟨an,ad⟩:=a
 obtain ⟨bn,bd⟩:=b
 simp only at l1 l2 l3 l4 g1 g2 g3 g4
 refine opP func103 ntmps103 (hp3:=rfl) ?_
 cases h1:tO (an,ad) with
 | true =>
  have t1:=J9 h1
  have q1:=J6 t1
  have p1:=t1.pos
  have m1:=t1.l1
  have m2:=t1.l2
  rw [h1,t1.n,t1.d] at az
  simp only at p1 m1 m2
  cases h2:tO (bn,bd) with
  | true =>
   have t2:=J9 h2
   have q2:=J6 t2
   have p2:=t2.pos
   have m3:=t2.l1
   have m4:=t2.l2
   rw [h2,t2.n,t2.d] at ao
   simp only at p2 m3 m4
   by_cases hb0:bn=0
   ·have c0:(bn != 0)=false:=by simp [hb0]
    have hJ:=fun S tk k=>Y5 S tk k (decide (an<0)) (dig an.natAbs) (decide (ad<0)) (dig ad.natAbs) (decide (bn<0)) (dig bn.natAbs) (decide (bd<0)) (dig bd.natAbs) (by omega) (by omega) (by omega) (by omega)
    rw [g1,g2,g3,g4] at hJ
    simp only [resQ,qA,ratA,ceW,digA] at az ao hJ ⊢
    simp (maxSteps:=10^6)+contextual(disch:=try exact dqd)only[ev1,simprocAttr,AV.int,AV.bool,AV.str,results103,az,ao,c0,hJ]
    rw [hr]; exact ⟨rfl,rfl,rfl,rfl⟩
   have c0:(bn != 0)=true:=by simp [hb0]
   have b1:=Gr m1 m4
   have b3:=Gr m2 m3
   have hd:ad*bn≠0:=Int.mul_ne_zero (by omega) hb0
   rw [q1,q2] at hr
   simp only at hr
   rw [Wd (by omega) (by omega) hd] at hr
   have hL:=fun S tk k=>M8 S tk k (an*bd) (ad*bn) (by omega) (by omega) hd
   rw [<- hr] at hL
   have v1:IntKind.i64.wrap (an*bd)=an*bd:=Ad (by unfold i64; omega)
   have v4:IntKind.i64.wrap (ad*bn)=ad*bn:=Ad (by unfold i64; omega)
   simp only [ceW,digA] at az ao hL ⊢
   simp (maxSteps:=10^6)+contextual(disch:=try exact dqd)only[ev1,simprocAttr,AV.int,AV.bool,AV.str,results103,az,ao,c0,v1,v4,hL]
  | false =>
   rw [h2] at ao
   have hJ:=fun S tk k=>Y5 S tk k (decide (an<0)) (dig an.natAbs) (decide (ad<0)) (dig ad.natAbs) (decide (bn<0)) (dig bn.natAbs) (decide (bd<0)) (dig bd.natAbs) (by omega) (by omega) (by omega) (by omega)
   rw [g1,g2,g3,g4] at hJ
   simp only [resQ,qA,ratA,ceW,digA] at az ao hJ ⊢
   simp (maxSteps:=10^6)+contextual(disch:=try exact dqd)only[ev1,simprocAttr,AV.int,AV.bool,AV.str,results103,az,ao,hJ]
   rw [hr]; exact ⟨rfl,rfl,rfl,rfl⟩
 | false =>
  rw [h1] at az
  have hJ:=fun S tk k=>Y5 S tk k (decide (an<0)) (dig an.natAbs) (decide (ad<0)) (dig ad.natAbs) (decide (bn<0)) (dig bn.natAbs) (decide (bd<0)) (dig bd.natAbs) (by omega) (by omega) (by omega) (by omega)
  rw [g1,g2,g3,g4] at hJ
  simp only [resQ,qA,ratA,ceW,digA] at az ao hJ ⊢
  simp (maxSteps:=10^6)+contextual(disch:=try exact dqd)only[ev1,simprocAttr,AV.int,AV.bool,AV.str,results103,az,ao,hJ]
  rw [hr]; exact ⟨rfl,rfl,rfl,rfl⟩
def cmpW (a b:Q):Int:=cmpZ ((qz a).1*(qz b).2) ((qz b).1*(qz a).2)
set_option maxRecDepth 100000 in
set_option maxHeartbeats 2000000 in
theorem Amr (a b:Q) (ha:okW a) (hb:okW b):cL prog 102 [.agg (ceW a),.agg (ceW b)] S tk k=some (.int (cmpW a b),S,tk,k):=by
 obtain ⟨r,hr⟩:∃ r,r=cmpW a b:=⟨_,rfl⟩
 rw [<- hr]
 unfold cmpW at hr
 obtain ⟨l1,l2⟩:=Ja ha
 obtain ⟨l3,l4⟩:=Ja hb
 obtain ⟨g1,g2⟩:=qz_n ha
 obtain ⟨g3,g4⟩:=qz_n hb
 have az:=fun S tk k=>G7 S tk k a ha
 have ao:=fun S tk k=>G7 S tk k b hb
 obtain ⟨an,ad⟩:=a
 obtain ⟨bn,bd⟩:=b
 simp only at l1 l2 l3 l4 g1 g2 g3 g4
 refine opP func102 ntmps102 (hp3:=rfl) ?_
 cases h1:tO (an,ad) with
 | true =>
  have t1:=J9 h1
  have q1:=J6 t1
  have p1:=t1.pos
  have m1:=t1.l1
  have m2:=t1.l2
  rw [h1,t1.n,t1.d] at az
  simp only at p1 m1 m2
  cases h2:tO (bn,bd) with
  | true =>
   have t2:=J9 h2
   have q2:=J6 t2
   have p2:=t2.pos
   have m3:=t2.l1
   have m4:=t2.l2
   rw [h2,t2.n,t2.d] at ao
   simp only at p2 m3 m4
   have b1:=Gr m1 m4
   have b2:=Gr m3 m2
   rw [q1,q2] at hr
   simp only at hr
   have v1:IntKind.i64.wrap (an*bd)=an*bd:=Ad (by unfold i64; omega)
   have v2:IntKind.i64.wrap (bn*ad)=bn*ad:=Ad (by unfold i64; omega)
   unfold cmpZ at hr
   simp only [ceW,digA] at az ao ⊢
   by_cases c1:an*bd<bn*ad
   ·have k1:decide (an*bd<bn*ad)=true:=by simpa using c1
    rw [if_pos c1] at hr
    subst hr
    simp (maxSteps:=10^6)+contextual(disch:=try exact dqd)only[ev1,simprocAttr,AV.int,AV.bool,AV.str,results102,az,ao,v1,v2,k1]
   ·have k1:decide (an*bd<bn*ad)=false:=by simpa using c1
    rw [if_neg c1] at hr
    by_cases c2:an*bd > bn*ad
    ·have k2:decide (an*bd > bn*ad)=true:=by simpa using c2
     rw [if_pos (by omega)] at hr
     subst hr
     simp (maxSteps:=10^6)+contextual(disch:=try exact dqd)only[ev1,simprocAttr,AV.int,AV.bool,AV.str,results102,az,ao,v1,v2,k1,k2]
    ·have k2:decide (an*bd > bn*ad)=false:=by simpa using c2
     rw [if_neg (by omega)] at hr
     subst hr
     simp (maxSteps:=10^6)+contextual(disch:=try exact dqd)only[ev1,simprocAttr,AV.int,AV.bool,AV.str,results102,az,ao,v1,v2,k1,k2]
  | false =>
   rw [h2] at ao
   have hJ:=fun S tk k=>Ae4 S tk k (decide (an<0)) (dig an.natAbs) (decide (ad<0)) (dig ad.natAbs) (decide (bn<0)) (dig bn.natAbs) (decide (bd<0)) (dig bd.natAbs) (by omega) (by omega) (by omega) (by omega)
   rw [g1,g2,g3,g4,<- hr] at hJ
   simp only [ratA,ceW,digA] at az ao hJ ⊢
   simp (maxSteps:=10^6)+contextual(disch:=try exact dqd)only[ev1,simprocAttr,AV.int,AV.bool,AV.str,results102,az,ao,hJ,Bool.not_true,Bool.not_false]
 | false =>
  rw [h1] at az
  have hJ:=fun S tk k=>Ae4 S tk k (decide (an<0)) (dig an.natAbs) (decide (ad<0)) (dig ad.natAbs) (decide (bn<0)) (dig bn.natAbs) (decide (bd<0)) (dig bd.natAbs) (by omega) (by omega) (by omega) (by omega)
  rw [g1,g2,g3,g4,<- hr] at hJ
  simp only [ratA,ceW,digA] at az ao hJ ⊢
  simp (maxSteps:=10^6)+contextual(disch:=try exact dqd)only[ev1,simprocAttr,AV.int,AV.bool,AV.str,results102,az,ao,hJ,Bool.not_true,Bool.not_false]
end
end
section
open Go
def ovR (p:Q) (row:List Q):List Q:=row.map fun x=>(wF.over x p).1
def zipR (f:Q):List Q->List Q->List Q
 | a :: l,b :: r=>(wF.minus a (wF.times f b).1).1 :: zipR f l r
 | _,_=>[]
def lsR (f:Q) (a b:List Q):List Q:=if sgn f=0 then a else zipR f a b
def rowsR (row:List Q) (c i:Nat):Nat->List (List Q)->List (List Q)
 | _,[]=>[]
 | k,r :: l=>(if k=i then r else lsR (at_ q0 r c) r row) :: rowsR row c i (k+1) l
def pivR (t:Tb) (i c:Nat):Tb :=
 { t with rows:=rowsR (ovR (at_ q0 (Ei t i) c) (Ei t i)) c i 0 (put t.rows i (ovR (at_ q0 (Ei t i) c) (Ei t i))),cost:=lsR (at_ q0 t.cost c) t.cost (ovR (at_ q0 (Ei t i) c) (Ei t i)),basis:=put t.basis i c }
def quoR (r:List Q) (c W:Nat):Q:=(wF.over (at_ q0 r (W - 1)) (at_ q0 r c)).1
def R4 (basis:List Nat) (s:Int) (k bi:Nat):Bool:=decide (s<0) || (s == 0 && decide (at_ 0 basis k<at_ 0 basis bi))
def D9 (t:Tb) (c:Nat):Nat->List (List Q)->Option Nat->Option Nat
 | _,[],b=>b
 | k,r :: l,b =>
  if sgn (at_ q0 r c)<=0 then D9 t c (k+1) l b else
   match b with
   | none=>D9 t c (k+1) l (some k)
   | some bi=>D9 t c (k+1) l (if R4 t.basis (cmpW (quoR r c t.cost.length) (quoR (Ei t bi) c t.cost.length)) k bi=true then some k else some bi)
def K9 (lim:Nat):Nat->Tb->Option (Bool × Tb)
 | 0,_=>none
 | n+1,t=>match colF t.cost lim 0 with
  | none=>some (true,t)
  | some c=>match D9 t c 0 t.rows none with
   | none=>some (false,t)
   | some i=>K9 lim n (pivR t i c)
def sgI (r:RowT):Int:=if -r.2.1<0 then -1 else 1
def iQ (n:Int):Q:=(n,1)
def Eg:List (ByteArray × Int)->ByteArray->Int
 | [],_=>0
 | c :: cs,s=>if sEq c.1 s=true then c.2 else Eg cs s
def Gf (s:Int) (cs:List (ByteArray × Int)):List ByteArray->List Q
 | []=>[]
 | v :: vs=>iQ (s*Eg cs v) :: iQ (-s*Eg cs v) :: Gf s cs vs
def Vh (m i:Nat) (r:RowT) (k:Nat):Int:=if k=m+i then 1 else if k=i/\r.2.2=false then sgI r else 0
def Gq (vars:List ByteArray) (m i:Nat) (r:RowT):List Q:=Gf (sgI r) r.1 vars++(List.range (2*m)).map (fun k=>iQ (Vh m i r k))++[iQ (sgI r*-r.2.1)]
def linesR (vars:List ByteArray) (m:Nat):Nat->List RowT->List (List Q)
 | _,[]=>[]
 | i,r :: l=>Gq vars m i r :: linesR vars m (i+1) l
def colR (k:Nat):List (List Q)->Q->Q
 | [],c=>c
 | r :: l,c=>colR k l (wF.minus c (at_ q0 r k)).1
def Adt (rows:List (List Q)) (real m k:Nat):Q:=colR k rows (iQ (if real<=k/\k<real+m then 1 else 0))
def D0 (l:List RowT) (vars:List ByteArray):Tb :=
 let real:=2*vars.length+l.length
 let rows:=linesR vars l.length 0 l
 { vars:=vars.length,real:=real,rows:=rows,cost:=(List.range (real+l.length+1)).map (Adt rows real l.length),basis:=(List.range l.length).map (real+·),flip:=l.map fun r=>decide (sgI r<0),fl:=false }
theorem Wg {f:Q} : ∀ {l r:List Q},l.length=r.length->(zipR f l r).length=l.length
 | [],[],_=>rfl
 | [],_ :: _,h=>by simp at h
 | _ :: _,[],h=>by simp at h
 | _ :: l,_ :: r,h=>by simp only [zipR,List.length_cons,Wg (show l.length=r.length by simpa using h)]
theorem Yd {f:Q} {l r:List Q} (h:l.length=r.length):(lsR f l r).length=l.length:=by
 unfold lsR; split
 ·rfl
 ·exact Wg h
theorem Amf {p:Q} {l:List Q} : (ovR p l).length=l.length:=List.length_map _
end
section
open Go Tryz
section
variable {P:Program} {t:TypeId} {e:List AV} {S:List Ent} {n:Nat} {c:Cap}
theorem Afr (h:apT P t=some 4) (hx:e.length=4) (hl:e.all leafOk=true):apO P t (.frz [] .nilc) (.frz [e] c) S n=some (.sref S.length n 0 1 4,S++[⟨n,e⟩],n+1):=by
 have hl:litC 4 (.frz [e] c)=some (1,e):=by simp [litC,hl,Bl,hx]
 unfold apO
 rw [h]; simp only [hl]
 rw [if_pos ⟨by omega,by simp [roomy]⟩]
 rfl
theorem Aj8 {id ep len:Nat} {cs:List AV} (h:apT P t=some 4) (hx:e.length=4) (hl:e.all leafOk=true) (hE:entAt S id ep=some cs) (hc:cs.length=len*4) (h0:0<len) (h1:len+1<=1048576):apO P t (.sref id ep 0 len 4) (.frz [e] c) S n=some (.sref id n 0 (len+1) 4,put S id ⟨n,cs++e⟩,n+1):=by
 have hl:litC 4 (.frz [e] c)=some (1,e):=by simp [litC,hl,Bl,hx]
 unfold apO
 rw [h]; simp only [hl]
 rw [if_pos ⟨by omega,by simp [roomy]⟩]
 simp only [apO2,hE]
 rw [if_pos ⟨trivial,h0⟩]
 rw [if_pos ⟨hc,by simp [roomy]; omega⟩]
end
def ohd (id ep:Nat):Nat->AV
 | 0=>.frz [] .nilc
 | k+1=>.sref id ep 0 (k+1) 4
theorem Hh {id ep k:Nat} (h:k≠0):ohd id ep k=.sref id ep 0 k 4:=by cases k with|zero=>exact absurd rfl h|succ k=>rfl
def oent (ep:Nat) (l:List Q):List Ent:=if l=[] then [] else [⟨ep,flat ceW l⟩]
theorem Ag1 {l:List Q} {q:Q} : flat ceW (l++[q])=flat ceW l++ceW q:=by unfold flat; simp
def Ao2 (S:List Ent) (tk:List Nat) (ida epa:Nat) (f:Q) (a b:List Q) (r:Rs):Prop :=
 ∃ S' k' id ep,r=(.sref id ep 0 a.length 4,S',tk,k')/\S.length<=S'.length/\(∀ j,j<S.length->nth S' j=nth S j)/\entAt S' id ep=some (flat ceW (lsR f a b))/\((id=ida/\ep=epa)\/S.length<=id)
theorem Ajf {f:Q} {a b:List Q} {k:Nat} {x y:Q} (hx:nth a k=some x) (hy:nth b k=some y):zipR f (a.take (k+1)) (b.take (k+1))=zipR f (a.take k) (b.take k)++[(wF.minus x (wF.times f y).1).1]:=by
 induction k generalizing a b with
 | zero =>
  cases a with
  | nil=>simp [nth] at hx
  | cons u a =>
   cases b with
   | nil=>simp [nth] at hy
   | cons v b =>
    simp only [nth,Option.some.injEq] at hx hy
    subst hx; subst hy; rfl
 | succ k ih =>
  cases a with
  | nil=>simp [nth] at hx
  | cons u a =>
   cases b with
   | nil=>simp [nth] at hy
   | cons v b =>
    simp only [List.take_succ_cons,zipR,List.cons_append]
    rw [ih (a:=a) (b:=b) hx hy]
section
variable (S:List Ent) (tk:List Nat) (k:Nat)
set_option maxHeartbeats 8000000 in
set_option maxRecDepth 100000 in
theorem Aaz (ida epa idb epb:Nat) (f:Q) (a b:List Q) (hf:okW f) (hA:entAt S ida epa=some (flat ceW a)) (hB:entAt S idb epb=some (flat ceW b)) (hab:a.length=b.length) (h0:0<a.length) (hW:a.length<=1000000) (ha:okL wF a) (hb:okL wF b) :
  ∃ r,cL prog 104 [.sref ida epa 0 a.length 4,.sref idb epb 0 a.length 4,.agg (ceW f)] S tk k=some r/\Ao2 S tk ida epa f a b r:=by
 obtain ⟨Φ,hΦ⟩:∃ Φ,Φ=Ao2 S tk ida epa f a b:=⟨_,rfl⟩
 rw [<- hΦ]
 have hs:=fun S tk k=>Lz S tk k f
 refine opM func104 ntmps104 ?_
 by_cases h1:sgn f=0
 ·have c1:(sgn f == 0)=true:=by simpa using h1
  simp (maxSteps:=10^6)+contextual(disch:=try exact dqd)only[evg1,simprocAttr,AV.int,AV.bool,AV.str,results104,hs,c1,Aq,A3,Dx,Dw,tkW,puW,xfs]
  rw [hΦ]
  refine ⟨_,_,ida,epa,rfl,by simp,fun j hj=>Eu hj,?_,.inl ⟨rfl,rfl⟩⟩
  unfold lsR; rw [if_pos h1]
  exact A2 hA
 have c1:(sgn f == 0)=false:=by simpa using h1
 simp (maxSteps:=10^6)+contextual(disch:=try exact dqd)only[evg1,simprocAttr,AV.int,AV.bool,AV.str,results104,hs,c1,Aq,A3,Dx,Dw,tkW,puW,xfs]
 have hoe:∀ e,oent e (zipR f (a.take 0) (b.take 0))=[]:=fun e=>by simp [oent,zipR]
 refine Q0 (P:=prog) (fun x st=>st.T.length=34/\(x.2.2.1<=a.length)/\(x.1=S++[(⟨k,ceW f⟩:Ent)]++oent x.2.2.2 (zipR f (a.take x.2.2.1) (b.take x.2.2.1)))/\getT st.T 0=.sref ida epa 0 a.length 4/\getT st.T 1=.sref idb epb 0 a.length 4/\getT st.T 5=.ref S.length k 0/\getT st.T 7=ohd (S.length+1) x.2.2.2 x.2.2.1/\getT st.T 14=.int (a.length:Nat)/\getT st.T 15=.int (x.2.2.1:Nat)/\st.S=x.1/\st.tk=tk/\st.n=x.2.1) (fun x=>a.length - x.2.2.1) ((S++[(⟨k,ceW f⟩:Ent)]),(k+1),0,0) ?_ ?_
 case refine_2=>exact ⟨rfl,Nat.zero_le _,by rw [hoe,List.append_nil],rfl,rfl,rfl,rfl,rfl,rfl,rfl,rfl,rfl⟩
 rintro ⟨SS,n1,j,e⟩ ⟨T,S',tk',n'⟩ ⟨hl,hj,md,e0,e1,e5,e7,e14,e15,eS,eT,eN⟩ IH
 simp only at hj md e0 e1 e5 e7 e14 e15 eS eT eN
 subst eS eT eN
 obtain ⟨g,hg,hT⟩:=Ap hl
 rw [hg] at e0 e1 e5 e7 e14 e15
 subst hT
 clear hg hl
 have gx:∀ x:Ent,(S++[x]).length=S.length+1:=fun x=>by simp
 have hzl:(zipR f (a.take j) (b.take j)).length=j:=by rw [Wg (by simp [hab])]; simp; omega
 by_cases vt:j<a.length
 ·have c2:decide ((j:Int)<(a.length:Int))=true:=by simpa using vt
  have fo:IntKind.i64.wrap ((j:Int)+1)=((j+1:Nat):Int):=by rw [Ad (by unfold i64; omega)]; rfl
  obtain ⟨x,hx⟩:=Ab vt
  obtain ⟨y,hy⟩:=Ab (show j<b.length by omega)
  have ox:=ha x (Ak hx)
  have oy:=hb y (Ak hy)
  have js:=Br (ce:=ceW) Aq hx
  have hyt:=Br (ce:=ceW) Aq hy
  have kg:=Ajf (f:=f) hx hy
  obtain ⟨p,hp⟩:∃ p,p=(wF.times f y).1:=⟨_,rfl⟩
  have op:okW p:=by rw [hp]; exact Ee.times _ _ hf oy
  obtain ⟨d,hd⟩:∃ d,d=(wF.minus x p).1:=⟨_,rfl⟩
  have od:okW d:=by rw [hd]; exact Ee.minus _ _ ox op
  rw [<- hp,<- hd] at kg
  have hM:=fun S tk k=>Ams S tk k f y hf oy
  have hD:=fun S tk k=>Afg S tk k x p ox op
  rw [<- hp] at hM
  rw [<- hd] at hD
  have eA:entAt S' ida epa=some (flat ceW a):=by rw [md,List.append_assoc]; exact A2 hA
  have eB:entAt S' idb epb=some (flat ceW b):=by rw [md,List.append_assoc]; exact A2 hB
  have eF:entAt S' S.length k=some (ceW f):=by rw [md]; exact A2 Dr
  have hap:apT prog 57=some 4:=by kernel_rfl
  by_cases hj0:j=0
  ·have vu:S'=S++[(⟨k,ceW f⟩:Ent)]:=by rw [md,hj0,hoe,List.append_nil]
   have dx:∀ c S n,apO prog 57 (.frz [] .nilc) (.frz [ceW d] c) S n=some (.sref S.length n 0 (j+1) 4,S++[⟨n,ceW d⟩],n+1):=fun c S n=>by rw [hj0]; exact Afr hap (Aq d) (A3 d)
   rw [show ohd (S.length+1) e j=.frz [] .nilc by rw [hj0]; rfl] at e7
   have hSl:S'.length=S.length+1:=by rw [vu,gx]
   simp (maxSteps:=10^6)+contextual(disch:=try exact dqd)only[evg1,simprocAttr,AV.int,AV.bool,AV.str,results104,e0,e1,e5,e7,e14,e15,c2,fo,vt,eA,eB,eF,js,hyt,hM,hD,dx,hSl,Aq,A3,Dx,Dw,tkW,puW,xfs]
   have cg:zipR f (a.take (j+1)) (b.take (j+1))=[d]:=by rw [kg,hj0]; rfl
   exact IH (S'++[(⟨n',ceW d⟩:Ent)],n'+1,j+1,n') _ (by first|omega|(simp only; omega)) ⟨rfl,by first|omega|(dsimp only; omega),by rw [cg,vu]; simp [oent,flat],by and_intros <;> first|rfl|simp only [getT,List.map_append,List.map_cons,List.map_nil]⟩
  ·have rp:zipR f (a.take j) (b.take j)≠[]:=fun h=>by rw [h] at hzl; simp at hzl; omega
   have rq:oent e (zipR f (a.take j) (b.take j))=[⟨e,flat ceW (zipR f (a.take j) (b.take j))⟩]:=if_neg rp
   rw [rq] at md
   rw [Hh hj0] at e7
   have eO:entAt S' (S.length+1) e=some (flat ceW (zipR f (a.take j) (b.take j))):=by rw [md]; exact Ko (gx _)
   have dx:=fun c n=>Aj8 (S:=S') (n:=n) (c:=c) (id:=S.length+1) (ep:=e) (len:=j) hap (Aq d) (A3 d) eO (by rw [Ql Aq,hzl]) (by omega) (by omega)
   simp (maxSteps:=10^6)+contextual(disch:=try exact dqd)only[evg1,simprocAttr,AV.int,AV.bool,AV.str,results104,e0,e1,e5,e7,e14,e15,c2,fo,vt,eA,eB,eF,js,hyt,hM,hD,dx,Aq,A3,Dx,Dw,tkW,puW,xfs]
   have cg:oent n' (zipR f (a.take (j+1)) (b.take (j+1)))=[⟨n',flat ceW (zipR f (a.take j) (b.take j))++ceW d⟩]:=by rw [kg]; unfold oent; rw [if_neg (by simp),Ag1]
   exact IH (put S' (S.length+1) ⟨n',flat ceW (zipR f (a.take j) (b.take j))++ceW d⟩,n'+1,j+1,n') _ (by first|omega|(simp only; omega)) ⟨rfl,by first|omega|(dsimp only; omega),by rw [cg,md,Pl (gx _)],by and_intros <;> first|rfl|simp only [getT,List.map_append,List.map_cons,List.map_nil]⟩
 ·have c2:decide ((j:Int)<(a.length:Int))=false:=by simpa using vt
  have fu:j=a.length:=by omega
  subst fu
  rw [List.take_length,hab,List.take_length] at md
  rw [Hh (by omega)] at e7
  simp (maxSteps:=10^6)+contextual(disch:=try exact dqd)only[evg1,simprocAttr,AV.int,AV.bool,AV.str,results104,e0,e1,e5,e7,e14,e15,c2]
  have rp:zipR f a b≠[]:=fun h=>by
   have:=Wg (f:=f) hab
   rw [h] at this; simp at this; omega
  have rq:oent e (zipR f a b)=[⟨e,flat ceW (zipR f a b)⟩]:=if_neg rp
  rw [rq] at md
  rw [hΦ,md]
  refine ⟨_,_,S.length+1,e,rfl,by simp,fun j hj=>?_,?_,.inr (by omega)⟩
  ·rw [Eu (by rw [gx]; omega),Eu hj]
  ·unfold lsR; rw [if_neg h1]
   exact Ko (gx _)
end
end
section
open Go
structure AptR (I:TI):Prop where
 tr:I.it≠I.ir
 tc:I.it≠I.ic
 tb:I.it≠I.ib
 rc:I.ir≠I.ic
 rb:I.ir≠I.ib
 cb:I.ic≠I.ib
 row:∀ p ∈ I.ids,p.1≠I.it/\p.1≠I.ir/\p.1≠I.ic/\p.1≠I.ib
 rows:∀ i j p q,nth I.ids i=some p->nth I.ids j=some q->i≠j->p.1≠q.1
structure RTab (S:List Ent) (I:TI) (t:Tb) (vars:List ByteArray) (m:Nat) (c:Cap):Prop where
 top:entAt S I.it I.et=some [.sref I.ir I.er 0 t.rows.length 1,.sref I.ib I.eb 0 t.rows.length 1,.sref I.ic I.ec 0 t.cost.length 4,.frz (vars.map strC) .unk,.frz (t.flip.map Hm) c,intA m]
 nids:I.ids.length=t.rows.length
 rowsE:entAt S I.ir I.er=some (I.ids.map (cd t.cost.length 4))
 rowE:∀ i p r,nth I.ids i=some p->nth t.rows i=some r->entAt S p.1 p.2=some (flat ceW r)
 rowW:∀ r ∈ t.rows,r.length=t.cost.length
 costE:entAt S I.ic I.ec=some (flat ceW t.cost)
 basisE:entAt S I.ib I.eb=some (t.basis.map intA)
 nb:t.basis.length=t.rows.length
 ap:AptR I
 okr:∀ r ∈ t.rows,okL wF r
 okc:okL wF t.cost
 bigW:t.cost.length<=1000000
 bigM:t.rows.length<=1000000
 posM:0<t.rows.length
 posW:0<t.cost.length
def OutR (I:TI) (j:Nat):Prop:=j≠I.it/\j≠I.ir/\j≠I.ic/\j≠I.ib/\∀ p ∈ I.ids,j≠p.1
section
variable {S S':List Ent} {I:TI} {t:Tb} {vars:List ByteArray} {m:Nat} {c:Cap}
theorem RTab.lt (h:RTab S I t vars m c):I.it<S.length/\I.ir<S.length/\I.ic<S.length/\I.ib<S.length/\∀ p ∈ I.ids,p.1<S.length:=by
 refine ⟨Bd h.top,Bd h.rowsE,Bd h.costE,Bd h.basisE,fun p hp=>?_⟩
 obtain ⟨i,hi⟩:=List.getElem?_of_mem hp
 have bl:=(List.getElem?_eq_some_iff.1 hi).1
 obtain ⟨r,hr⟩:=Ab (show i<t.rows.length by rw [<- h.nids]; exact bl)
 exact Bd (h.rowE i p r (by rw [Ac]; exact hi) hr)
theorem RTab.out (h:RTab S I t vars m c) {j:Nat} (hj:S.length<=j):OutR I j:=by
 obtain ⟨h1,h2,h3,h4,h5⟩:=h.lt
 exact ⟨by omega,by omega,by omega,by omega,fun p hp=>by have:=h5 p hp; omega⟩
theorem RTab.frame (h:RTab S I t vars m c) (hS:∀ j,j<S.length->¬ OutR I j->nth S' j=nth S j):RTab S' I t vars m c:=by
 obtain ⟨h1,h2,h3,h4,h5⟩:=h.lt
 have k1:=hS I.it h1 fun h=>h.1 rfl
 have k2:=hS I.ir h2 fun h=>h.2.1 rfl
 have k3:=hS I.ic h3 fun h=>h.2.2.1 rfl
 have k4:=hS I.ib h4 fun h=>h.2.2.2.1 rfl
 have k5:∀ p ∈ I.ids,nth S' p.1=nth S p.1:=fun p hp=>hS p.1 (h5 p hp) fun h=>h.2.2.2.2 p hp rfl
 exact ⟨by rw [Ae k1]; exact h.top,h.nids,by rw [Ae k2]; exact h.rowsE,fun i p r hp hr=>by rw [Ae (k5 p (Ak hp))]; exact h.rowE i p r hp hr,h.rowW,by rw [Ae k3]; exact h.costE,by rw [Ae k4]; exact h.basisE,h.nb,h.ap,h.okr,h.okc,h.bigW,h.bigM,h.posM,h.posW⟩
theorem RTab.app (h:RTab S I t vars m c) (L:List Ent):RTab (S++L) I t vars m c:=h.frame fun j hj _=>Eu hj
theorem RTab.row (h:RTab S I t vars m c) {i:Nat} {p:Nat × Nat} {r':List Q} (hp:nth I.ids i=some p) (hi:i<t.rows.length) (hl:r'.length=t.cost.length) (ho:okL wF r') (hS:∀ j,j≠p.1->j<S.length->nth S' j=nth S j) (he:entAt S' p.1 p.2=some (flat ceW r')) :
  RTab S' I { t with rows:=put t.rows i r' } vars m c:=by
 obtain ⟨h1,h2,h3,h4,h5⟩:=h.lt
 have jj:=h.ap.row p (Ak hp)
 have key:∀ j e,j≠p.1->j<S.length->entAt S' j e=entAt S j e:=fun j e a b=>Ae (hS j a b)
 refine ⟨?_,by rw [Ai]; exact h.nids,?_,fun j q r hq ah=>?_,fun r ah=>?_,?_,?_,by rw [Ai]; exact h.nb,h.ap,fun r ah=>?_,h.okc,h.bigW,by rw [Ai]; exact h.bigM,by rw [Ai]; exact h.posM,h.posW⟩
 ·rw [key _ _ jj.1.symm h1,Ai]; exact h.top
 ·rw [key _ _ jj.2.1.symm h2]; exact h.rowsE
 ·rw [Jy hi] at ah
  by_cases e:j=i
  ·subst e
   rw [if_pos rfl] at ah
   rw [hp] at hq
   simp only [Option.some.injEq] at ah hq
   subst ah; subst hq; exact he
  ·rw [if_neg e] at ah
   rw [key _ _ (h.ap.rows j i q p hq hp e) (h5 q (Ak hq))]; exact h.rowE j q r hq ah
 ·rcases Ea ah with rfl|ah
  ·exact hl
  ·exact h.rowW r ah
 ·rw [key _ _ jj.2.2.1.symm h3]; exact h.costE
 ·rw [key _ _ jj.2.2.2.symm h4]; exact h.basisE
 ·rcases Ea ah with rfl|ah
  ·exact ho
  ·exact h.okr r ah
theorem RTab.setRow (h:RTab S I t vars m c) {i:Nat} {q:Nat × Nat} {r':List Q} (hi:i<t.rows.length) (hl:r'.length=t.cost.length) (ho:okL wF r') (hq:nth I.ids i=some q\/OutR I q.1) (he:entAt S q.1 q.2=some (flat ceW r')) :
  RTab (put S I.ir ⟨I.er,put (I.ids.map (cd t.cost.length 4)) i (cd t.cost.length 4 q)⟩) { I with ids:=put I.ids i q } { t with rows:=put t.rows i r' } vars m c:=by
 obtain ⟨h1,h2,h3,h4,h5⟩:=h.lt
 have hii:i<I.ids.length:=by rw [h.nids]; exact hi
 have jk:q.1≠I.it/\q.1≠I.ir/\q.1≠I.ic/\q.1≠I.ib:=by
  rcases hq with hq|hq
  ·exact h.ap.row q (Ak hq)
  ·exact ⟨hq.1,hq.2.1,hq.2.2.1,hq.2.2.2.1⟩
 have hqd:∀ j p,j≠i->nth I.ids j=some p->p.1≠q.1:=fun j p hj hp=>by
  rcases hq with hq|hq
  ·exact h.ap.rows j i p q hp hq hj
  ·exact (hq.2.2.2.2 p (Ak hp)).symm
 refine ⟨?_,by simp only [Ai]; exact h.nids,?_,fun j p r hp ah=>?_,fun r ah=>?_,?_,?_,by simp only [Ai]; exact h.nb,⟨h.ap.tr,h.ap.tc,h.ap.tb,h.ap.rc,h.ap.rb,h.ap.cb,fun p hp=>?_,fun a b p p' ha hb hab=>?_⟩,fun r ah=>?_,h.okc,h.bigW,by simp only [Ai]; exact h.bigM,by simp only [Ai]; exact h.posM,h.posW⟩
 ·rw [An h.ap.tr.symm]; simp only [Ai]; exact h.top
 ·rw [Am h2,<- Rc]
 ·have b7:nth (put I.ids i q) j=some p:=hp
  rw [Jy hii] at b7
  rw [Jy hi] at ah
  by_cases e:j=i
  ·rw [if_pos e] at b7 ah
   simp only [Option.some.injEq] at b7 ah
   subst b7; subst ah
   rw [An jk.2.1.symm]; exact he
  ·rw [if_neg e] at b7 ah
   rw [An (h.ap.row p (Ak b7)).2.1.symm]; exact h.rowE j p r b7 ah
 ·rcases Ea ah with rfl|ah
  ·exact hl
  ·exact h.rowW r ah
 ·rw [An h.ap.rc]; exact h.costE
 ·rw [An h.ap.rb]; exact h.basisE
 ·rcases Ea hp with rfl|hp
  ·exact jk
  ·exact h.ap.row p hp
 ·have ha':nth (put I.ids i q) a=some p:=ha
  have mh:nth (put I.ids i q) b=some p':=hb
  rw [Jy hii] at ha' mh
  by_cases e:a=i
  ·rw [if_pos e] at ha'
   rw [if_neg (fun e2=>hab (e.trans e2.symm))] at mh
   simp only [Option.some.injEq] at ha'
   subst ha'
   exact (hqd b p' (fun e2=>hab (e.trans e2.symm)) mh).symm
  ·rw [if_neg e] at ha'
   by_cases e2:b=i
   ·rw [if_pos e2] at mh
    simp only [Option.some.injEq] at mh
    subst mh
    exact hqd a p e ha'
   ·rw [if_neg e2] at mh
    exact h.ap.rows a b p p' ha' mh hab
 ·rcases Ea ah with rfl|ah
  ·exact ho
  ·exact h.okr r ah
theorem RTab.setCost (h:RTab S I t vars m c) {q:Nat × Nat} {k':List Q} (hl:k'.length=t.cost.length) (ho:okL wF k') (hq:q=(I.ic,I.ec)\/OutR I q.1) (he:entAt S q.1 q.2=some (flat ceW k')) :
  RTab (put S I.it ⟨I.et,[.sref I.ir I.er 0 t.rows.length 1,.sref I.ib I.eb 0 t.rows.length 1,.sref q.1 q.2 0 t.cost.length 4,.frz (vars.map strC) .unk,.frz (t.flip.map Hm) c,intA m]⟩) { I with ic:=q.1,ec:=q.2 } { t with cost:=k' } vars m c:=by
 obtain ⟨h1,h2,h3,h4,h5⟩:=h.lt
 have jk:q.1≠I.it/\I.ir≠q.1/\q.1≠I.ib/\∀ p ∈ I.ids,p.1≠q.1:=by
  rcases hq with rfl|hq
  ·exact ⟨h.ap.tc.symm,h.ap.rc,h.ap.cb,fun p hp=>(h.ap.row p hp).2.2.1⟩
  ·exact ⟨hq.1,hq.2.1.symm,hq.2.2.2.1,fun p hp=>(hq.2.2.2.2 p hp).symm⟩
 refine ⟨?_,h.nids,?_,fun j p r hp hr=>?_,fun r hr=>by rw [hl]; exact h.rowW r hr,?_,?_,h.nb,⟨h.ap.tr,jk.1.symm,h.ap.tb,jk.2.1,h.ap.rb,jk.2.2.1,fun p hp=>?_,h.ap.rows⟩,h.okr,ho,by rw [hl]; exact h.bigW,h.bigM,h.posM,by rw [hl]; exact h.posW⟩
 ·rw [Am h1,hl]
 ·rw [An h.ap.tr,hl]; exact h.rowsE
 ·rw [An (h.ap.row p (Ak hp)).1.symm]; exact h.rowE j p r hp hr
 ·rw [An jk.1.symm]; exact he
 ·rw [An h.ap.tb]; exact h.basisE
 ·have:=h.ap.row p hp
  exact ⟨this.1,this.2.1,jk.2.2.2 p hp,this.2.2.2⟩
theorem RTab.setBasis (h:RTab S I t vars m c) {i b:Nat} : RTab (put S I.ib ⟨I.eb,(put t.basis i b).map intA⟩) I { t with basis:=put t.basis i b } vars m c:=by
 obtain ⟨h1,h2,h3,h4,h5⟩:=h.lt
 refine ⟨?_,h.nids,?_,fun j p r hp hr=>?_,h.rowW,?_,Am h4,by simp only [Ai]; exact h.nb,h.ap,h.okr,h.okc,h.bigW,h.bigM,h.posM,h.posW⟩
 ·rw [An h.ap.tb.symm]; exact h.top
 ·rw [An h.ap.rb.symm]; exact h.rowsE
 ·rw [An (h.ap.row p (Ak hp)).2.2.2.symm]; exact h.rowE j p r hp hr
 ·rw [An h.ap.cb.symm]; exact h.costE
def RetR (S:List Ent) (tk:List Nat) (I:TI) (t':Tb) (vars:List ByteArray) (m:Nat) (c:Cap) (v:AV) (r:Rs):Prop :=
 ∃ S' k' I',r=(v,S',tk,k')/\S.length<=S'.length/\RTab S' I' t' vars m c/\I'.it=I.it/\I'.et=I.et/\∀ j,j<S.length->OutR I j->nth S' j=nth S j/\OutR I' j
end
end
section
open Go Tryz
theorem ext_mvK (f:FuncId) (h:CkF (mvF0 f)):Ext.mv prog f=false:=h.h
theorem ext_mvT (f:FuncId) (h:CkT (mvF0 f)):Ext.mv prog f=true:=h.h
set_option linter.defProp false in
def evgm:=And.intro @Alx <| And.intro @Alw <| And.intro @Aar <| And.intro @Aaq <| And.intro ext_mvK <| And.intro ext_mvT evs0
set_option linter.defProp false in
def evm:=And.intro ext_mvK <| And.intro ext_mvT ev0
theorem Ap9 {P:Program} {all:List Oper} {d:Option Tmp} {T:List AV} {S S':List Ent} {t:TypeId} {a e:Tmp} {x v:AV} (hL:loadsB all d=[(t,.tmp a,some e,true)]) (h2:S.length<=S'.length) (he:decide (e<T.length)=true) (ha:getT T a=x) (hv:getT T e=v) (h:ldA P t x S'=some v):reA P all d T S S'=some () :=
 Acl hL h2 fun q hq=>by
  simp only [List.mem_singleton] at hq; subst hq
  exact ⟨rfl,e,rfl,of_decide_eq_true he,by show ldA P t (opv T (.tmp a)) S'=_; rw [show opv T (.tmp a)=getT T a from rfl,ha,hv]; exact h⟩
theorem Ap5 {b:Q} (hb:okW b) {l:List Q} (h:okL wF l):okL wF (ovR b l):=by
 intro q hq
 obtain ⟨x,hx,rfl⟩:=List.mem_map.1 hq
 exact Ee.over _ _ (h x hx) hb
theorem Aje {f:Q} (hf:okW f):∀ {l r:List Q},okL wF l->okL wF r->okL wF (zipR f l r)
 | [],_,_,_=>fun q hq=>by simp [zipR] at hq
 | _ :: _,[],_,_=>fun q hq=>by simp [zipR] at hq
 | x :: l,y :: r,h,h'=>by
  intro q hq
  simp only [zipR,List.mem_cons] at hq
  rcases hq with rfl|hq
  ·exact Ee.minus _ _ (h _ (by simp)) (Ee.times _ _ hf (h' _ (by simp)))
  ·exact Aje hf (fun q hq=>h q (by simp [hq])) (fun q hq=>h' q (by simp [hq])) q hq
theorem Al8 {f:Q} (hf:okW f) {l r:List Q} (h:okL wF l) (h':okL wF r):okL wF (lsR f l r):=by
 unfold lsR; split
 ·exact h
 ·exact Aje hf h h'
section
variable (S:List Ent) (tk:List Nat) (k:Nat)
set_option maxHeartbeats 8000000 in
set_option maxRecDepth 100000 in
theorem Aff (I:TI) (t:Tb) (vars:List ByteArray) (m:Nat) (cc:Cap) (i c:Nat) (fg:RTab S I t vars m cc) (hi:i<t.rows.length) (hc:c<t.cost.length) :
  ∃ r,cL prog 82 [.ref I.it I.et 0,.int i,.int c] S tk k=some r/\RetR S tk I (pivR t i c) vars m cc (.tup []) r:=by
 obtain ⟨Φ,hΦ⟩:∃ Φ,Φ=RetR S tk I (pivR t i c) vars m cc (.tup []):=⟨_,rfl⟩
 rw [<- hΦ]
 obtain ⟨row,bf⟩:=Ab hi
 obtain ⟨pi,mc⟩:=Ab (show i<I.ids.length by rw [fg.nids]; exact hi)
 have ji:=fg.rowW row (Ak bf)
 have hro:=fg.okr row (Ak bf)
 obtain ⟨b,hb⟩:=Ab (show c<row.length by omega)
 have ob:okW b:=hro b (Ak hb)
 have aq:=fg.top
 have rr:=fg.rowsE
 have ka:nth (List.drop i (I.ids.map (cd t.cost.length 4))) 0=some (.sref pi.1 pi.2 0 t.cost.length 4):=Gm (by rw [Ac] at mc ⊢; rw [List.getElem?_map,mc]; rfl)
 have m5:=Br (ce:=ceW) Aq hb
 have hre:=fg.rowE i pi row mc bf
 refine opM func82 ntmps82 ?_
 simp (maxSteps:=10^6)+contextual(disch:=try exact dqd)only[evgm,simprocAttr,AV.int,AV.bool,AV.str,results82,aq,rr,ka,m5,hre,hi,hc,Nat.mul_one,intA,Aq,A3,ovW]
 have hW:=fg.bigW
 have hM:=fg.bigM
 have j2:=fg.lt
 have jj:=fg.ap.row pi (Ak mc)
 have jo:=Aia bf
 have eT:({ t with rows:=t.rows } : Tb)=t:=rfl
 refine Q0 (P:=prog) (fun x st=>st.T.length=124/\(ovR b row=x.2.2.1++ovR b x.2.2.2)/\(x.2.2.1.length+x.2.2.2.length=t.cost.length)/\(RTab x.1 I { t with rows:=put t.rows i (x.2.2.1++x.2.2.2) } vars m cc)/\(entAt x.1 S.length k=some (ceW b))/\(x.1.length=S.length+1)/\(∀ j,j<S.length->OutR I j->nth x.1 j=nth S j)/\(okL wF x.2.2.2)/\getT st.T 0=.ref I.it I.et 0/\getT st.T 1=.int (i:Nat)/\getT st.T 2=.int (c:Nat)/\getT st.T 6=.ref S.length k 0/\getT st.T 26=.int (t.cost.length:Nat)/\getT st.T 27=.int (x.2.2.1.length:Nat)/\st.S=x.1/\st.tk=tk/\st.n=x.2.1) (fun x=>x.2.2.2.length) ((S++[⟨k,ceW b⟩]),(k+1),([]:List Q),row) ?_ ?_
 case refine_2=>exact ⟨rfl,by simp,by simpa using ji,by simp only [List.nil_append,jo]; exact fg.app _,Ko rfl,by simp,fun j hj _=>Eu hj,hro,rfl,rfl,rfl,rfl,rfl,rfl,rfl,rfl,rfl⟩
 rintro ⟨SS,n1,p,u⟩ ⟨T,S',tk',n'⟩ ⟨hl,hR,mi,hT,zx,kh,fb,ou,e0,e1,e2,e6,e26,e27,eS,eT,eN⟩ IH
 simp only at hR mi hT zx kh fb ou e0 e1 e2 e6 e26 e27 eS eT eN
 subst eS eT eN
 obtain ⟨g,hg,hT⟩:=Ap hl
 rw [hg] at e0 e1 e2 e6 e26 e27
 subst hT
 clear hg hl
 by_cases ek:p.length<t.cost.length
 ·have c1:decide ((p.length:Int)<(t.cost.length:Int))=true:=by simpa using ek
  obtain ⟨a0,u,rfl⟩:∃ a0 u',u=a0 :: u':=by
   cases u with
   | nil=>simp at mi; omega
   | cons x u=>exact ⟨x,u,rfl⟩
  have oa0:=ou a0 (by simp)
  have nk:=Br (ce:=ceW) Aq (Z0 (p:=p) (u:=u) (x:=a0))
  have hrn:nth (put t.rows i (p++a0 :: u)) i=some (p++a0 :: u):=Hr hi
  have he:=hT.rowE i pi _ mc hrn
  have me:=hT.rowsE
  have ht1:=hT.top
  have hmu:u.length<(a0 :: u).length:=by simp
  obtain ⟨y,hy⟩:∃ y,y=(wF.over a0 b).1:=⟨_,rfl⟩
  have oy:okW y:=by rw [hy]; exact Ee.over _ _ oa0 ob
  have hD:=fun S tk k=>Y6 S tk k a0 b oa0 ob
  rw [<- hy] at hD
  have hw:IntKind.i64.wrap ((p.length:Int)+1)=(((p++[y]).length:Nat):Int):=by rw [Ad (by unfold i64; omega)]; simp
  have ho:=Ady (ce:=ceW) Aq (l:=p++a0 :: u) (k:=p.length) (q':=y) (by simp)
  rw [Z7] at ho
  have s7:∀ x,List.take S'.length (put S' pi.1 x)=put S' pi.1 x:=fun x=>List.take_of_length_le (by simp [Au])
  simp (maxSteps:=10^6)+contextual(disch:=try exact dqd)only[evgm,simprocAttr,AV.int,AV.bool,AV.str,results82,e0,e1,e2,e6,e26,e27,c1,s7,hw,ht1,me,ka,he,nk,zx,ek,hi,hD,ho,Nat.mul_one,Aq,A3,Dx,Dw,tkW,puW,Ai]
  have iv:=hT.row (S':=put S' pi.1 ⟨pi.2,flat ceW (p++y :: u)⟩) (r':=p++y :: u) mc (by simp only [Ai]; exact hi) (by simp only [List.length_append,List.length_cons] at mi ⊢; exact mi) (fun q hq=>by
   rcases List.mem_append.1 hq with h|h
   ·exact hT.okr _ (Ak hrn) q (by simp [h])
   ·rcases List.mem_cons.1 h with rfl|h
    ·exact oy
    ·exact ou q (by simp [h])) (fun j h1 h2=>Ah (Ne.symm h1)) (Am (Bd he))
  simp only [Ah9] at iv
  have hpS:pi.1<S.length:=j2.2.2.2.2 pi (Ak mc)
  exact IH (put S' pi.1 ⟨pi.2,flat ceW (p++y :: u)⟩,n',p++[y],u) _ (by first|omega|(simp only; omega)) ⟨rfl,by rw [hR]; simp only [ovR,List.map_cons,<- hy,List.append_assoc,List.cons_append,List.nil_append],by show (p++[y]).length+u.length=t.cost.length; simp only [List.length_append,List.length_cons,List.length_nil] at mi ⊢; omega,by simp only [List.append_assoc,List.cons_append,List.nil_append]; exact iv,by rw [An (by first|omega|(dsimp only; omega))]; exact zx,by rw [Au]; exact kh,fun j h1 h2=>by rw [Ah (Ne.symm (h2.2.2.2.2 pi (Ak mc)))]; exact fb j h1 h2,fun q hq=>ou q (by simp [hq]),by and_intros <;> first|rfl|simp only [getT,List.map_append]⟩
 ·have c1:decide ((p.length:Int)<(t.cost.length:Int))=false:=by simpa using ek
  have xj:u=[]:=List.length_eq_zero_iff.1 (by omega)
  subst xj
  simp only [ovR,List.map_nil] at hR
  simp only [List.append_nil,List.length_nil,Nat.add_zero] at hR mi hT
  have zy:pivR t i c={ t with rows:=rowsR p c i 0 (put t.rows i p),cost:=lsR (at_ q0 t.cost c) t.cost p,basis:=put t.basis i c }:=by
   have:ovR b row=p:=hR
   unfold pivR Ei
   rw [Dd bf,Dd hb,this]
  have op:okL wF p:=by have:=Ap5 ob hro; rw [show ovR b row=p from hR] at this; exact this
  have py:=hT.top
  simp only [Ai] at py
  simp (maxSteps:=10^6)+contextual(disch:=try exact dqd)only[evgm,simprocAttr,AV.int,AV.bool,AV.str,results82,e0,e1,e2,e6,e26,e27,c1,py]
  refine Q0 (P:=prog) (fun x st=>st.T.length=124/\(rowsR p c i 0 (put t.rows i p)=x.2.2.1++rowsR p c i x.2.2.1.length x.2.2.2.1)/\(x.2.2.1.length+x.2.2.2.1.length=t.rows.length)/\(RTab x.1 x.2.2.2.2 { t with rows:=x.2.2.1++x.2.2.2.1 } vars m cc)/\(nth (x.2.2.1++x.2.2.2.1) i=some p)/\(nth x.2.2.2.2.ids i=some pi)/\(x.2.2.2.2.it=I.it/\x.2.2.2.2.et=I.et)/\(S.length<=x.1.length)/\(∀ j,j<S.length->OutR I j->nth x.1 j=nth S j/\OutR x.2.2.2.2 j)/\getT st.T 0=.ref I.it I.et 0/\getT st.T 1=.int (i:Nat)/\getT st.T 2=.int (c:Nat)/\getT st.T 56=.int (t.rows.length:Nat)/\getT st.T 57=.int (x.2.2.1.length:Nat)/\st.S=x.1/\st.tk=tk'/\st.n=x.2.1) (fun x=>x.2.2.2.1.length) (S',n',([]:List (List Q)),(put t.rows i p),I) ?_ ?_
  case refine_2=>exact ⟨rfl,by simp,by simp [Ai],by simp only [List.nil_append]; exact hT,by simp only [List.nil_append]; exact Hr hi,mc,⟨rfl,rfl⟩,by show S.length<=S'.length; omega,fun j h1 h2=>⟨fb j h1 h2,h2⟩,rfl,rfl,rfl,rfl,rfl,rfl,rfl,rfl⟩
  rintro ⟨SS,n1,P,U,J⟩ ⟨T,S',tk',n'⟩ ⟨hl,pz,iw,ao,dm,p4,hJ,vv,ny,e0,e1,e2,e56,e57,eS,eT,eN⟩ IH
  simp only at pz iw ao dm p4 hJ vv ny e0 e1 e2 e56 e57 eS eT eN
  subst eS eT eN
  obtain ⟨g,hg,hT⟩:=Ap hl
  rw [hg] at e0 e1 e2 e56 e57
  subst hT
  clear hg hl
  obtain ⟨jl,jt⟩:=hJ
  have hJn:=ao.nids
  simp only [List.length_append,iw] at hJn
  have eo:=ao.top
  simp only [List.length_append,iw,jl,jt] at eo
  have n6:=ao.rowsE
  have rt:=ao.rowE i pi p p4 dm
  have hlt3:=ao.lt
  by_cases gd:P.length<t.rows.length
  ·have c2:decide ((P.length:Int)<(t.rows.length:Int))=true:=by simpa using gd
   obtain ⟨r0,U,rfl⟩:∃ r0 U',U=r0 :: U':=by
    cases U with
    | nil=>simp at iw; omega
    | cons x u=>exact ⟨x,u,rfl⟩
   have hmu:U.length<(r0 :: U).length:=by simp
   have hw2:∀ z:List Q,IntKind.i64.wrap ((P.length:Int)+1)=(((P++[z]).length:Nat):Int):=fun z=>by rw [Ad (by unfold i64; omega)]; simp
   by_cases mg:P.length=i
   ·have c3:((P.length:Int) != (i:Int))=false:=by rw [mg]; simp
    have hw3:=hw2 r0
    simp (maxSteps:=10^6)+contextual(disch:=try exact dqd)only[evgm,simprocAttr,AV.int,AV.bool,AV.str,results82,e0,e1,e2,e56,e57,c2,c3,hw3,Nat.mul_one]
    exact IH (S',n',P++[r0],U,J) _ (by first|omega|(simp only; omega)) ⟨rfl,by rw [pz]; simp only [rowsR,if_pos mg,List.append_assoc,List.cons_append,List.nil_append,List.length_append,List.length_cons,List.length_nil,Nat.zero_add],by show (P++[r0]).length+U.length=t.rows.length; simp only [List.length_append,List.length_cons,List.length_nil] at iw ⊢; omega,by simpa using ao,by simpa using dm,p4,⟨jl,jt⟩,vv,ny,by and_intros <;> first|rfl|simp only [getT,List.map_append]⟩
   ·have c3:((P.length:Int) != (i:Int))=true:=by simp; omega
    obtain ⟨pk,ru⟩:=Ab (show P.length<J.ids.length by omega)
    have gy:nth (List.drop P.length (J.ids.map (cd t.cost.length 4))) 0=some (.sref pk.1 pk.2 0 t.cost.length 4):=Gm (by rw [Ac] at ru ⊢; rw [List.getElem?_map,ru]; rfl)
    have ry:nth (List.drop i (J.ids.map (cd t.cost.length 4))) 0=some (.sref pi.1 pi.2 0 t.cost.length 4):=Gm (by rw [Ac] at p4 ⊢; rw [List.getElem?_map,p4]; rfl)
    have tj:nth (P++r0 :: U) P.length=some r0:=Z0
    have f9:=ao.rowE P.length pk r0 ru tj
    have cq:=ao.rowW r0 (Ak tj)
    have or0:=ao.okr r0 (Ak tj)
    obtain ⟨f,hf⟩:=Ab (show c<r0.length by simp only at cq; omega)
    have of:=or0 f (Ak hf)
    have zz:=Br (ce:=ceW) Aq hf
    have z6:at_ q0 r0 c=f:=Dd hf
    obtain ⟨r,hcall,S3,k3,id,ep,rfl,tl,jx,z7,m7⟩:=Aaz S' tk' n' pk.1 pk.2 pi.1 pi.2 f r0 p of f9 rt (by simp only at cq; omega) (by simp only at cq; omega) (by simp only at cq; omega) or0 op
    simp only at cq
    rw [cq] at hcall
    have tn:RTab S3 J { t with rows:=P++r0 :: U } vars m cc:=ao.frame fun j hj _=>jx j hj
    have hz:(lsR f r0 p).length=t.cost.length:=by rw [Yd (by omega),cq]
    have hq:nth J.ids P.length=some (id,ep)\/OutR J (id,ep).1:=by
     rcases m7 with ⟨rfl,rfl⟩|h
     ·exact .inl ru
     ·exact .inr (ao.out h)
    have iv:=tn.setRow (i:=P.length) (q:=(id,ep)) (r':=lsR f r0 p) (by simp only [List.length_append,List.length_cons]; omega) hz (Al8 of or0 op) hq z7
    simp only [Z7] at iv
    have hw3:=hw2 (lsR f r0 p)
    have tp:=tn.top
    simp only [List.length_append,iw,jl,jt] at tp
    have ul:=tn.rowsE
    simp only at ul
    have z8:ldA prog 93 (.ref I.it I.et 0) S3=some (.sref J.ir J.er 0 t.rows.length 1):=by
     simp (disch:=try exact dqd) only [evs1,tp]
    have jv:over (J.ids.map (cd t.cost.length 4)) P.length [.sref id ep 0 t.cost.length 4]=some (put (J.ids.map (cd t.cost.length 4)) P.length (cd t.cost.length 4 (id,ep))):=Vs (w:=cd t.cost.length 4 pk) (by rw [Ac] at ru ⊢; rw [List.getElem?_map,ru]; rfl)
    have hra:=fun {all T S} (h1:loadsB all (some 92)=[(93,.tmp 65,some 66,true)]) (h2:S.length<=S3.length) (h3:decide (66<T.length)=true) (h4:getT T 65=.ref I.it I.et 0) (h5:getT T 66=.sref J.ir J.er 0 t.rows.length 1)=>Ap9 (P:=prog) (S:=S) h1 h2 h3 h4 h5 z8
    simp (maxSteps:=10^6)+contextual(disch:=try exact dqd)only[evgm,simprocAttr,AV.int,AV.bool,AV.str,results82,e0,e1,e2,e56,e57,c2,c3,eo,n6,gy,ry,f9,zz,hc,hi,gd,hw3,hcall,tl,hra,tp,ul,jv,xfs,Nat.mul_one,Aq,A3,Dx,Dw,tkW,puW]
    have rz:∀ j,j<S.length->OutR I j->nth (put S3 J.ir ⟨J.er,put (J.ids.map (cd t.cost.length 4)) P.length (cd t.cost.length 4 (id,ep))⟩) j=nth S j/\OutR { J with ids:=put J.ids P.length (id,ep) } j:=fun j h1 h2=>by
     obtain ⟨a1,a2⟩:=ny j h1 h2
     refine ⟨by rw [Ah (Ne.symm a2.2.1),jx j (by omega)]; exact a1,a2.1,a2.2.1,a2.2.2.1,a2.2.2.2.1,fun q hq=>?_⟩
     rcases Ea hq with rfl|hq
     ·rcases m7 with ⟨h3,h4⟩|h3
      ·show j≠id
       rw [h3]; exact a2.2.2.2.2 pk (Ak ru)
      ·show j≠id
       omega
     ·exact a2.2.2.2.2 q hq
    exact IH (put S3 J.ir ⟨J.er,put (J.ids.map (cd t.cost.length 4)) P.length (cd t.cost.length 4 (id,ep))⟩,k3,P++[lsR f r0 p],U,{ J with ids:=put J.ids P.length (id,ep) }) _ (by first|omega|(simp only; omega)) ⟨rfl,by rw [pz]; simp only [rowsR,if_neg mg,z6,List.append_assoc,List.cons_append,List.nil_append,List.length_append,List.length_cons,List.length_nil,Nat.zero_add],by show (P++[lsR f r0 p]).length+U.length=t.rows.length; simp only [List.length_append,List.length_cons,List.length_nil] at iw ⊢; omega,by simpa using iv,by rw [List.append_assoc,List.singleton_append,<- Z7 (x:=r0),Jy (by simp),if_neg (fun h=>mg h.symm)]; exact dm,by rw [Jy (by first|omega|(dsimp only; omega)),if_neg (fun h=>mg h.symm)]; exact p4,⟨jl,jt⟩,by rw [Au]; omega,rz,by and_intros <;> first|rfl|simp only [getT,List.map_append]⟩
  ·have c2:decide ((P.length:Int)<(t.rows.length:Int))=false:=by simpa using gd
   have hU0:U=[]:=List.length_eq_zero_iff.1 (by omega)
   subst hU0
   simp only [rowsR] at pz
   simp only [List.append_nil,List.length_nil,Nat.add_zero] at pz iw ao dm
   have ry:nth (List.drop i (J.ids.map (cd t.cost.length 4))) 0=some (.sref pi.1 pi.2 0 t.cost.length 4):=Gm (by rw [Ac] at p4 ⊢; rw [List.getElem?_map,p4]; rfl)
   obtain ⟨f,hf⟩:=Ab hc
   have of:=fg.okc f (Ak hf)
   have zz:=Br (ce:=ceW) Aq hf
   have z6:at_ q0 t.cost c=f:=Dd hf
   have kk:=ao.costE
   obtain ⟨r,hcall,S3,k3,id,ep,rfl,tl,jx,z7,m7⟩:=Aaz S' tk' n' J.ic J.ec pi.1 pi.2 f t.cost p of kk rt (by omega) (by omega) (by omega) fg.okc op
   have tn:RTab S3 J { t with rows:=P } vars m cc:=ao.frame fun j hj _=>jx j hj
   have hz:(lsR f t.cost p).length=t.cost.length:=Yd (by omega)
   have hq:(id,ep)=(J.ic,J.ec)\/OutR J (id,ep).1:=by
    rcases m7 with ⟨rfl,rfl⟩|h
    ·exact .inl rfl
    ·exact .inr (ao.out h)
   have iv:=tn.setCost (q:=(id,ep)) (k':=lsR f t.cost p) hz (Al8 of fg.okc op) hq z7
   have hT4:=iv.setBasis (i:=i) (b:=c)
   have tp:=tn.top
   simp only [iw,jl,jt] at tp
   have htp:=iv.top
   have vw:=iv.basisE
   simp only [iw,jl,jt,hz] at htp vw
   obtain ⟨b0,hb0⟩:=Ab (show i<t.basis.length by rw [fg.nb]; exact hi)
   have jv:over (t.basis.map intA) i [.prim (.int .i64 (c:Int))]=some ((put t.basis i c).map intA):=by
    rw [<- Rc]
    exact Vs (w:=intA b0) (by rw [Ac] at hb0 ⊢; rw [List.getElem?_map,hb0]; rfl)
   have kz:=fg.nb
   simp (maxSteps:=10^6)+contextual(disch:=try exact dqd)only[evgm,simprocAttr,AV.int,AV.bool,AV.str,results82,e0,e1,e2,e56,e57,c2,eo,n6,ry,kk,zz,rt,hc,hi,hcall,tl,tp,htp,vw,jv,Aab,xfs,Nat.mul_one,Aq,A3,Dx,Dw,tkW,puW]
   rw [hΦ,zy,z6,pz]
   simp only [iw,jl,jt] at hT4
   exact ⟨_,_,_,rfl,by rw [Au,Au]; omega,hT4,rfl,rfl,fun j h1 h2=>by
    obtain ⟨a1,a2⟩:=ny j h1 h2
    refine ⟨by rw [Ah (Ne.symm a2.2.2.2.1),Ah (by rw [<- jl]; exact Ne.symm a2.1),jx j (by omega)]; exact a1,h2.1,a2.2.1,?_,a2.2.2.2.1,a2.2.2.2.2⟩
    rcases m7 with ⟨h3,h4⟩|h3
    ·show j≠id
     rw [h3]; exact a2.2.2.1
    ·show j≠id
     omega⟩
end
def Na:Option Nat->AV
 | none=>.int (-1)
 | some i=>.int (i:Nat)
theorem Mi {t:Tb} {c m:Nat} : ∀ {l:List (List Q)} {k:Nat} {b:Option Nat} {i:Nat},k+l.length<=m->(∀ i,b=some i->i<m)->D9 t c k l b=some i->i<m
 | [],k,b,i,_,hb,h=>hb i h
 | r :: l,k,b,i,hl,hb,h=>by
  simp only [List.length_cons] at hl
  unfold D9 at h
  split at h
  ·exact Mi (by omega) hb h
  ·split at h
   ·exact Mi (k:=k+1) (l:=l) (by omega) (fun i e=>by simp only [Option.some.injEq] at e; omega) h
   ·refine Mi (k:=k+1) (l:=l) (by omega) (fun i' e=>?_) h
    split at e
    ·simp only [Option.some.injEq] at e; omega
    ·exact hb i' e
section
variable (S:List Ent) (tk:List Nat) (k:Nat)
set_option maxHeartbeats 8000000 in
set_option maxRecDepth 100000 in
theorem Ade (I:TI) (t:Tb) (vars:List ByteArray) (m:Nat) (cc:Cap) (c:Nat) (hT:RTab S I t vars m cc) (hc:c<t.cost.length) :
  ∃ r,cL prog 81 [.ref I.it I.et 0,.int c] S tk k=some r/\r=(Na (D9 t c 0 t.rows none),S,tk,k):=by
 obtain ⟨Φ,hΦ⟩:∃ Φ:Rs->Prop,Φ=fun r=>r=(Na (D9 t c 0 t.rows none),S,tk,k):=⟨_,rfl⟩
 rw [show (∃ r,cL prog 81 [.ref I.it I.et 0,.int c] S tk k=some r/\r=(Na (D9 t c 0 t.rows none),S,tk,k))=(∃ r,cL prog 81 [.ref I.it I.et 0,.int c] S tk k=some r/\Φ r) by rw [hΦ]]
 have aq:=hT.top
 have me:=hT.rowsE
 have hW:=hT.bigW
 have hM:=hT.bigM
 refine opG func81 ntmps81 ?_
 simp (maxSteps:=10^6)+contextual(disch:=try exact dqd)only[evg1,simprocAttr,AV.int,AV.bool,AV.str,results81,aq]
 refine Q0 (P:=prog) (fun x st=>st.T.length=110/\(D9 t c 0 t.rows none=D9 t c x.1.length x.2.1 x.2.2)/\(t.rows=x.1++x.2.1)/\(∀ bi,x.2.2=some bi->bi<x.1.length)/\getT st.T 0=.ref I.it I.et 0/\getT st.T 1=.int (c:Nat)/\getT st.T 5=Na x.2.2/\getT st.T 13=.int (t.rows.length:Nat)/\getT st.T 14=.int (x.1.length:Nat)/\st.S=S/\st.tk=tk/\st.n=k) (fun x=>x.2.1.length) (([]:List (List Q)),t.rows,(none:Option Nat)) ?_ ?_
 case refine_2=>exact ⟨rfl,rfl,rfl,(fun _ h=>by cases h),rfl,rfl,rfl,rfl,rfl,rfl,rfl,rfl⟩
 rintro ⟨P,U,bst⟩ ⟨T,S',tk',n'⟩ ⟨hl,hR,iw,hb,e0,e1,e5,e13,e14,eS,eT,eN⟩ IH
 simp only at hR iw hb e0 e1 e5 e13 e14 eS eT eN
 subst eS eT eN
 obtain ⟨g,hg,hT⟩:=Ap hl
 rw [hg] at e0 e1 e5 e13 e14
 subst hT
 clear hg hl
 have sv:t.rows.length=P.length+U.length:=by rw [iw]; simp
 by_cases gd:P.length<t.rows.length
 ·have c1:decide ((P.length:Int)<(t.rows.length:Int))=true:=by simpa using gd
  obtain ⟨r0,U,rfl⟩:∃ r0 U',U=r0 :: U':=by
   cases U with
   | nil=>simp at sv; omega
   | cons x u=>exact ⟨x,u,rfl⟩
  have hmu:U.length<(r0 :: U).length:=by simp
  have jb:=fun {i:Nat} (hi:i<t.rows.length)=>show ∃ (p:Nat × Nat) (r:List Q),nth (List.drop i (I.ids.map (cd t.cost.length 4))) 0=some (.sref p.1 p.2 0 t.cost.length 4)/\entAt S' p.1 p.2=some (flat ceW r)/\nth t.rows i=some r/\r.length=t.cost.length by
   obtain ⟨r,hr⟩:=Ab hi
   obtain ⟨p,hp⟩:=Ab (show i<I.ids.length by rw [hT.nids]; exact hi)
   exact ⟨p,r,Gm (by rw [Ac] at hp ⊢; rw [List.getElem?_map,hp]; rfl),hT.rowE i p r hp hr,hr,hT.rowW r (Ak hr)⟩
  have tj:nth t.rows P.length=some r0:=by rw [iw]; exact Z0
  obtain ⟨pk,r0',gy,f9,vz,cq⟩:=jb gd
  obtain rfl:r0'=r0:=by rw [tj] at vz; simpa using vz.symm
  have or0:=hT.okr r0' (Ak tj)
  obtain ⟨x,hx⟩:=Ab (show c<r0'.length by omega)
  have ox:=or0 x (Ak hx)
  have js:=Br (ce:=ceW) Aq hx
  have hs:=fun S tk k=>Lz S tk k x
  have hw2:IntKind.i64.wrap ((P.length:Int)+1)=(((P++[r0']).length:Nat):Int):=by rw [Ad (by unfold i64; omega)]; simp
  have j6:t.rows=(P++[r0'])++U:=by rw [iw]; simp
  have xp:(P++[r0']).length=P.length+1:=by simp
  by_cases il:sgn x<=0
  ·have c2:decide (sgn x<=0)=true:=by simpa using il
   simp (maxSteps:=10^6)+contextual(disch:=try exact dqd)only[evg1,simprocAttr,AV.int,AV.bool,AV.str,results81,e0,e1,e5,e13,e14,c1,c2,hw2,aq,me,gy,f9,js,gd,hc,hs,Nat.mul_one,Aq,A3,Dx,Dw,tkW,puW]
   exact IH (P++[r0'],U,bst) _ (by first|omega|(simp only; omega)) ⟨rfl,by rw [hR,xp]; simp only [D9,Dd hx]; rw [if_pos il],j6,fun bi h=>by have:=hb bi h; show bi<(P++[r0']).length; omega,by and_intros <;> first|rfl|simp only [getT,List.map_append]⟩
  have c2:decide (sgn x<=0)=false:=by simpa using il
  cases bst with
  | none =>
   have c3:decide ((-1:Int)<0)=true:=rfl
   simp only [Na] at e5
   simp (maxSteps:=10^6)+contextual(disch:=try exact dqd)only[evg1,simprocAttr,AV.int,AV.bool,AV.str,results81,e0,e1,e5,e13,e14,c1,c2,c3,hw2,aq,me,gy,f9,js,gd,hc,hs,Nat.mul_one,Aq,A3,Dx,Dw,tkW,puW]
   exact IH (P++[r0'],U,some P.length) _ (by first|omega|(simp only; omega)) ⟨rfl,by rw [hR,xp]; simp only [D9,Dd hx]; rw [if_neg il],j6,fun bi h=>by simp only [Option.some.injEq] at h; show bi<(P++[r0']).length; omega,by and_intros <;> first|rfl|simp only [getT,List.map_append]⟩
  | some bi =>
   have hbi:=hb bi rfl
   have c3:decide ((bi:Int)<0)=false:=by simp
   simp only [Na] at e5
   have hW1:IntKind.i64.wrap ((t.cost.length:Int) - 1)=((t.cost.length - 1:Nat):Int):=by rw [Ad (by unfold i64; omega)]; omega
   have p5:t.cost.length - 1<t.cost.length:=by omega
   obtain ⟨z,hz⟩:=Ab (show t.cost.length - 1<r0'.length by omega)
   have oz:=or0 z (Ak hz)
   have kg:=Br (ce:=ceW) Aq hz
   have m5:bi<t.rows.length:=by omega
   obtain ⟨pb,rb,n7,n9,hrb,hrbw⟩:=jb m5
   have orb:=hT.okr rb (Ak hrb)
   obtain ⟨xb,i8⟩:=Ab (show c<rb.length by omega)
   obtain ⟨zb,hzb⟩:=Ab (show t.cost.length - 1<rb.length by omega)
   have oxb:=orb xb (Ak i8)
   have ozb:=orb zb (Ak hzb)
   have oa:=Br (ce:=ceW) Aq i8
   have oc:=Br (ce:=ceW) Aq hzb
   have v6:=fun S tk k=>Y6 S tk k z x oz ox
   have l9:=fun S tk k=>Y6 S tk k zb xb ozb oxb
   have ju:quoR r0' c t.cost.length=(wF.over z x).1:=by unfold quoR; rw [Dd hz,Dd hx]
   have hq2:quoR (Ei t bi) c t.cost.length=(wF.over zb xb).1:=by unfold quoR Ei; rw [Dd hrb,Dd hzb,Dd i8]
   rw [<- ju] at v6
   rw [<- hq2] at l9
   have oq1:okW (quoR r0' c t.cost.length):=by rw [ju]; exact Ee.over _ _ oz ox
   have oq2:okW (quoR (Ei t bi) c t.cost.length):=by rw [hq2]; exact Ee.over _ _ ozb oxb
   have hC:=fun S tk k=>Amr S tk k _ _ oq1 oq2
   obtain ⟨s,r6⟩:∃ s,s=cmpW (quoR r0' c t.cost.length) (quoR (Ei t bi) c t.cost.length):=⟨_,rfl⟩
   rw [<- r6] at hC
   obtain ⟨bk,hbk⟩:=Ab (show P.length<t.basis.length by rw [hT.nb]; exact gd)
   obtain ⟨bb,hbb⟩:=Ab (show bi<t.basis.length by rw [hT.nb]; exact m5)
   have vw:=hT.basisE
   have wa:nth (List.drop P.length (t.basis.map intA)) 0=some (.prim (.int .i64 (bk:Int))):=Gm (by rw [Ac] at hbk ⊢; rw [List.getElem?_map,hbk]; rfl)
   have wb:nth (List.drop bi (t.basis.map intA)) 0=some (.prim (.int .i64 (bb:Int))):=Gm (by rw [Ac] at hbb ⊢; rw [List.getElem?_map,hbb]; rfl)
   have hlr:R4 t.basis s P.length bi=(decide (s<0) || (s == 0 && decide (bk<bb))):=by unfold R4; rw [Dd hbk,Dd hbb]
   have mo:D9 t c 0 t.rows none=D9 t c (P++[r0']).length U (if R4 t.basis s P.length bi=true then some P.length else some bi):=by
    rw [hR,xp]; simp only [D9,Dd hx]; rw [if_neg il,<- r6]
   have hb2:∀ b,(if R4 t.basis s P.length bi=true then some P.length else some bi)=some b->b<(P++[r0']).length:=fun b h=>by
    rw [xp]
    split at h <;> (simp only [Option.some.injEq] at h; omega)
   by_cases h1:s<0
   ·have k1:decide (s<0)=true:=by simpa using h1
    rw [show R4 t.basis s P.length bi=true by rw [hlr,k1]; rfl,if_pos rfl] at mo hb2
    simp (maxSteps:=10^6)+contextual(disch:=try exact dqd)only[evg1,simprocAttr,AV.int,AV.bool,AV.str,results81,e0,e1,e5,e13,e14,c1,c2,c3,k1,hw2,aq,me,gy,f9,js,kg,n7,n9,oa,oc,hW1,p5,gd,m5,hc,hs,v6,l9,hC,Nat.mul_one,Aq,A3,Dx,Dw,tkW,puW]
    exact IH (P++[r0'],U,some P.length) _ (by first|omega|(simp only; omega)) ⟨rfl,mo,j6,hb2,by and_intros <;> first|rfl|simp only [getT,List.map_append]⟩
   have k1:decide (s<0)=false:=by simpa using h1
   by_cases h2:s=0
   ·have k2:(s == 0)=true:=by simpa using h2
    by_cases h3:bk<bb
    ·have k3:decide ((bk:Int)<(bb:Int))=true:=by simpa using h3
     rw [show R4 t.basis s P.length bi=true by rw [hlr,k1,k2]; simpa using h3,if_pos rfl] at mo hb2
     simp (maxSteps:=10^6)+contextual(disch:=try exact dqd)only[evg1,simprocAttr,AV.int,AV.bool,AV.str,results81,e0,e1,e5,e13,e14,c1,c2,c3,k1,k2,k3,hw2,aq,me,gy,f9,js,kg,n7,n9,oa,oc,hW1,p5,gd,m5,hc,hs,v6,l9,hC,vw,wa,wb,Nat.mul_one,Aq,A3,Dx,Dw,tkW,puW]
     exact IH (P++[r0'],U,some P.length) _ (by first|omega|(simp only; omega)) ⟨rfl,mo,j6,hb2,by and_intros <;> first|rfl|simp only [getT,List.map_append]⟩
    ·have k3:decide ((bk:Int)<(bb:Int))=false:=by simpa using h3
     rw [show R4 t.basis s P.length bi=false by rw [hlr,k1,k2]; simpa using h3,if_neg Bool.false_ne_true] at mo hb2
     simp (maxSteps:=10^6)+contextual(disch:=try exact dqd)only[evg1,simprocAttr,AV.int,AV.bool,AV.str,results81,e0,e1,e5,e13,e14,c1,c2,c3,k1,k2,k3,hw2,aq,me,gy,f9,js,kg,n7,n9,oa,oc,hW1,p5,gd,m5,hc,hs,v6,l9,hC,vw,wa,wb,Nat.mul_one,Aq,A3,Dx,Dw,tkW,puW]
     exact IH (P++[r0'],U,some bi) _ (by first|omega|(simp only; omega)) ⟨rfl,mo,j6,hb2,by and_intros <;> first|rfl|simp only [getT,List.map_append]⟩
   ·have k2:(s == 0)=false:=by simpa using h2
    rw [show R4 t.basis s P.length bi=false by rw [hlr,k1,k2]; rfl,if_neg Bool.false_ne_true] at mo hb2
    simp (maxSteps:=10^6)+contextual(disch:=try exact dqd)only[evg1,simprocAttr,AV.int,AV.bool,AV.str,results81,e0,e1,e5,e13,e14,c1,c2,c3,k1,k2,hw2,aq,me,gy,f9,js,kg,n7,n9,oa,oc,hW1,p5,gd,m5,hc,hs,v6,l9,hC,Nat.mul_one,Aq,A3,Dx,Dw,tkW,puW]
    exact IH (P++[r0'],U,some bi) _ (by first|omega|(simp only; omega)) ⟨rfl,mo,j6,hb2,by and_intros <;> first|rfl|simp only [getT,List.map_append]⟩
 ·have c1:decide ((P.length:Int)<(t.rows.length:Int))=false:=by simpa using gd
  have hU0:U=[]:=List.length_eq_zero_iff.1 (by omega)
  subst hU0
  simp (maxSteps:=10^6)+contextual(disch:=try exact dqd)only[evg1,simprocAttr,AV.int,AV.bool,AV.str,results81,e0,e1,e5,e13,e14,c1]
  simp only [D9] at hR
  have pp:fz3 S'.length S' (Na bst)=Na bst:=by cases bst <;> rfl
  rw [hΦ,hR,pp]
  try simp only [List.take_length]
end
theorem Age {cost:List Q} : ∀ {n j c:Nat},colF cost n j=some c->j<=c/\c<j+n
 | 0,_,_,h=>by simp [colF] at h
 | n+1,j,c,h=>by
  unfold colF at h
  split at h
  ·simp only [Option.some.injEq] at h; omega
  ·have:=Age h; omega
theorem Ah6 {S:List Ent} {I:TI} {t:Tb} {vars:List ByteArray} {m:Nat} {cc:Cap} {i c:Nat} (h:RTab S I t vars m cc) (hi:i<t.rows.length):(pivR t i c).cost.length=t.cost.length:=by
 obtain ⟨row,bf⟩:=Ab hi
 have:=h.rowW row (Ak bf)
 unfold pivR Ei
 rw [Dd bf]
 exact Yd (by rw [Amf]; omega)
section
variable (S:List Ent) (tk:List Nat) (k:Nat)
set_option maxHeartbeats 8000000 in
set_option maxRecDepth 100000 in
theorem Afe (I:TI) (t t':Tb) (vars:List ByteArray) (m:Nat) (cc:Cap) (lim K:Nat) (b:Bool) (fg:RTab S I t vars m cc) (i5:lim<=t.cost.length) (hK:K9 lim K t=some (b,t')) :
  ∃ r,cL prog 58 [.ref I.it I.et 0,.int lim] S tk k=some r/\RetR S tk I t' vars m cc (.bool b) r:=by
 obtain ⟨Φ,hΦ⟩:∃ Φ,Φ=RetR S tk I t' vars m cc (.bool b):=⟨_,rfl⟩
 rw [<- hΦ]
 refine opM func58 ntmps58 ?_
 simp (maxSteps:=10^6)+contextual(disch:=try exact dqd)only[evgm,simprocAttr,AV.int,AV.bool,AV.str,results58]
 refine Q0 (P:=prog) (fun x st=>st.T.length=38/\(K9 lim x.2.2.1 x.2.2.2.1=some (b,t'))/\(RTab x.1 x.2.2.2.2 x.2.2.2.1 vars m cc)/\(x.2.2.2.1.cost.length=t.cost.length)/\(x.2.2.2.2.it=I.it/\x.2.2.2.2.et=I.et)/\(S.length<=x.1.length)/\(∀ j,j<S.length->OutR I j->nth x.1 j=nth S j/\OutR x.2.2.2.2 j)/\getT st.T 0=.ref I.it I.et 0/\getT st.T 1=.int (lim:Nat)/\st.S=x.1/\st.tk=tk/\st.n=x.2.1) (fun x=>x.2.2.1) (S,k,K,t,I) ?_ ?_
 case refine_2=>exact ⟨rfl,hK,fg,rfl,⟨rfl,rfl⟩,Nat.le_refl _,fun j _ h=>⟨rfl,h⟩,rfl,rfl,rfl,rfl,rfl⟩
 rintro ⟨SS,n1,K1,t1,J⟩ ⟨T,S',tk',n'⟩ ⟨hl,hK1,hT,hcl,hJ,kh,fb,e0,e1,eS,eT,eN⟩ IH
 simp only at hK1 hT hcl hJ kh fb e0 e1 eS eT eN
 subst eS eT eN
 obtain ⟨g,hg,hT⟩:=Ap hl
 rw [hg] at e0 e1
 subst hT
 clear hg hl
 have IHA:=IH
 clear IH
 obtain ⟨jl,jt⟩:=hJ
 cases K1 with
 | zero=>simp [K9] at hK1
 | succ K1 =>
 have aq:=hT.top
 simp only [jl,jt] at aq
 have kk:=hT.costE
 have hW:=hT.bigW
 unfold K9 at hK1
 simp (maxSteps:=10^6)+contextual(disch:=try exact dqd)only[evgm,simprocAttr,AV.int,AV.bool,AV.str,results58,e0,e1]
 refine Q0 (P:=prog) (fun x st=>st.T.length=38/\(x.1<=lim)/\((x.2=none/\colF t1.cost lim 0=colF t1.cost (lim - x.1) x.1)\/∃ c,x.2=some c/\colF t1.cost lim 0=some c)/\getT st.T 0=.ref I.it I.et 0/\getT st.T 1=.int (lim:Nat)/\getT st.T 5=Na x.2/\getT st.T 6=.int (x.1:Nat)/\st.S=S'/\st.tk=tk'/\st.n=n') (fun x=>lim - x.1) (0,(none:Option Nat)) ?_ ?_
 case refine_2=>exact ⟨rfl,Nat.zero_le _,.inl ⟨rfl,rfl⟩,rfl,rfl,rfl,rfl,rfl,rfl,rfl⟩
 rintro ⟨j,co⟩ ⟨T,S',tk',n'⟩ ⟨hl,hj,wc,e0,e1,e5,e6,eS,eT,eN⟩ IH
 simp only at hj wc e0 e1 e5 e6 eS eT eN
 subst eS eT eN
 obtain ⟨g,hg,hT⟩:=Ap hl
 rw [hg] at e0 e1 e5 e6
 subst hT
 clear hg hl
 rcases wc with ⟨rfl,hc⟩|⟨c,rfl,hc⟩
 ·have c3:decide ((-1:Int)<0)=true:=rfl
  simp only [Na] at e5
  by_cases hjr:j<lim
  ·have c1:decide ((j:Int)<(lim:Int))=true:=by simpa using hjr
   have hw:IntKind.i64.wrap ((j:Int)+1)=((j+1:Nat):Int):=by rw [Ad (by unfold i64; omega)]; rfl
   have hjc:j<t1.cost.length:=by omega
   obtain ⟨x,hx⟩:=Ab hjc
   have js:=Br (ce:=ceW) Aq hx
   have hs:=fun S tk k=>Lz S tk k x
   have nd:colF t1.cost (lim - j) j=if sgn x<0 then some j else colF t1.cost (lim - (j+1)) (j+1):=by
    rw [show lim - j=(lim - (j+1))+1 by omega]
    simp only [colF,Dd hx]
   by_cases hneg:sgn x<0
   ·have c2:decide (sgn x<0)=true:=by simpa using hneg
    rw [nd,if_pos hneg] at hc
    simp (maxSteps:=10^6)+contextual(disch:=try exact dqd)only[evgm,simprocAttr,AV.int,AV.bool,AV.str,results58,e0,e1,e5,e6,c1,c2,c3,hw,aq,kk,js,hjc,hs,Nat.mul_one,Aq,A3,Dx,Dw,tkW,puW]
    exact IH (j+1,some j) _ (by first|omega|(simp only; omega)) ⟨rfl,by first|omega|(dsimp only; omega),.inr ⟨j,rfl,hc⟩,by and_intros <;> first|rfl|simp only [getT,List.map_append]⟩
   ·have c2:decide (sgn x<0)=false:=by simpa using hneg
    rw [nd,if_neg hneg] at hc
    simp (maxSteps:=10^6)+contextual(disch:=try exact dqd)only[evgm,simprocAttr,AV.int,AV.bool,AV.str,results58,e0,e1,e5,e6,c1,c2,c3,hw,aq,kk,js,hjc,hs,Nat.mul_one,Aq,A3,Dx,Dw,tkW,puW]
    exact IH (j+1,none) _ (by first|omega|(simp only; omega)) ⟨rfl,by first|omega|(dsimp only; omega),.inl ⟨rfl,hc⟩,by and_intros <;> first|rfl|simp only [getT,List.map_append]⟩
  ·have c1:decide ((j:Int)<(lim:Int))=false:=by simpa using hjr
   rw [hc,show lim - j=0 by omega] at hK1
   simp only [colF,Option.some.injEq,Prod.mk.injEq] at hK1
   obtain ⟨rfl,rfl⟩:=hK1
   simp (maxSteps:=10^6)+contextual(disch:=try exact dqd)only[evgm,simprocAttr,AV.int,AV.bool,AV.str,results58,e0,e1,e5,e6,c1,c3]
   rw [hΦ]
   exact ⟨_,_,J,rfl,kh,hT,jl,jt,fb⟩
 ·have jw:=Age hc
  have hcc:c<t1.cost.length:=by omega
  rw [hc] at hK1
  simp only at hK1
  simp only [Na] at e5
  have c3:decide ((c:Int)<0)=false:=by simp
  obtain ⟨r,hlv,rfl⟩:=Ade S' tk' n' J t1 vars m cc c hT hcc
  rw [jl,jt] at hlv
  cases hl:D9 t1 c 0 t1.rows none with
  | none =>
   rw [hl] at hK1 hlv
   simp only [Option.some.injEq,Prod.mk.injEq] at hK1
   obtain ⟨rfl,rfl⟩:=hK1
   have c4:decide ((-1:Int)<0)=true:=rfl
   simp only [Na] at hlv
   cases c1:decide ((j:Int)<(lim:Int))
   all_goals
    simp (maxSteps:=10^6)+contextual(disch:=try exact dqd)only[evgm,simprocAttr,AV.int,AV.bool,AV.str,results58,e0,e1,e5,e6,c1,c3,c4,hlv,List.take_length]
    rw [hΦ]
    exact ⟨_,_,J,rfl,kh,hT,jl,jt,fb⟩
  | some i =>
   rw [hl] at hK1 hlv
   have nj:i<t1.rows.length:=Mi (t:=t1) (c:=c) (l:=t1.rows) (k:=0) (by omega) (fun _ h=>by simp at h) hl
   obtain ⟨r,hpv,S3,k3,J3,rfl,tl,iv,a0a,a0b,xq⟩:=Aff S' tk' n' J t1 vars m cc i c hT nj hcc
   rw [jl,jt] at hpv
   have c4:decide ((i:Int)<0)=false:=by simp
   simp only [Na] at hlv
   have a0c:(pivR t1 i c).cost.length=t.cost.length:=by rw [Ah6 hT nj]; exact hcl
   have rz:∀ j,j<S.length->OutR I j->nth S3 j=nth S j/\OutR J3 j:=fun j h1 h2=>by
    obtain ⟨a1,a2⟩:=fb j h1 h2
    obtain ⟨b1,b2⟩:=xq j (by omega) a2
    exact ⟨by rw [b1]; exact a1,b2⟩
   cases c1:decide ((j:Int)<(lim:Int))
   all_goals
    simp (maxSteps:=10^6)+contextual(disch:=try exact dqd)only[evgm,simprocAttr,AV.int,AV.bool,AV.str,results58,e0,e1,e5,e6,c1,c3,c4,hlv,hpv,List.take_length]
    exact IHA (S3,k3,K1,pivR t1 i c,J3) _ (by first|omega|(simp only; omega)) ⟨rfl,hK1,iv,a0c,⟨a0a.trans jl,a0b.trans jt⟩,by show S.length<=S3.length; omega,rz,by and_intros <;> first|rfl|simp only [getT,List.map_append]⟩
end
section
variable {P:Program} {t:TypeId} {ys:List (List AV)} {S:List Ent} {n:Nat} {c:Cap}
theorem lit4 (hr:Bl 4 ys=true) (hl:(ys.all fun e=>e.all leafOk)=true):litC 4 (.frz ys c)=some (ys.length,ys.flatten):=if_pos ⟨hr,hl⟩
theorem ap4n (h:apT P t=some 4) (hr:Bl 4 ys=true) (hl:(ys.all fun e=>e.all leafOk)=true) (h0:0<ys.length) (hm:ys.length<=1048576):apO P t (.frz [] .nilc) (.frz ys c) S n=some (.sref S.length n 0 ys.length 4,S++[⟨n,ys.flatten⟩],n+1):=by
 unfold apO
 rw [h]; simp only [lit4 hr hl]
 rw [if_pos ⟨h0,by simpa [roomy] using hm⟩]
 rfl
theorem ap4m {id ep len:Nat} {cs:List AV} (h:apT P t=some 4) (hr:Bl 4 ys=true) (hl:(ys.all fun e=>e.all leafOk)=true) (hy:0<ys.length) (hE:entAt S id ep=some cs) (hc:cs.length=len*4) (h0:0<len) (h1:len+ys.length<=1048576):apO P t (.sref id ep 0 len 4) (.frz ys c) S n=some (.sref id n 0 (len+ys.length) 4,put S id ⟨n,cs++ys.flatten⟩,n+1):=by
 unfold apO
 rw [h]; simp only [lit4 hr hl]
 rw [if_pos ⟨hy,by simp [roomy]; omega⟩]
 simp only [apO2,hE]
 rw [if_pos ⟨trivial,h0⟩]
 rw [if_pos ⟨hc,by simpa [roomy] using h1⟩]
end
section
variable (S:List Ent) (tk:List Nat) (k:Nat)
set_option maxRecDepth 100000 in
theorem Ajk (cs:List (ByteArray × Int)) (n:Int) (s:ByteArray) (hl:cs.length<=1048576):cL prog 76 [.agg [Aa cs,.int n],.str s] S tk k=some (.int (Eg cs s),S,tk,k):=by
 refine opP func76 ntmps76 (hp3:=rfl) ?_
 simp (maxSteps:=10^6)+contextual(disch:=try exact dqd)only[ev1,simprocAttr,AV.int,AV.bool,AV.str,results76,Aa]
 refine loop1 (P:=prog) (fun x st=>st.T.length=21/\(x<=cs.length)/\(Eg cs s=Eg (cs.drop x) s)/\getT st.T 1=.str s/\getT st.T 8=Aa cs/\getT st.T 9=.int (cs.length:Nat)/\getT st.T 10=.int (x:Nat)/\st.S=[⟨0,[Aa cs,.int n]⟩]) (fun x=>cs.length - x) (fun x=>.int (Eg cs s)) (0) ?_ ?_
 case refine_2=>exact ⟨rfl,Nat.zero_le _,rfl,rfl,rfl,rfl,rfl,rfl⟩
 rintro i ⟨T,S',tk',n'⟩ ⟨hl,hi,hs,e1,e8,e9,e10,eS⟩ IH
 subst eS
 obtain ⟨g,hg,hT⟩:=Ap hl
 rw [hg] at e1 e8 e9 e10
 subst hT
 clear hg hl
 by_cases la:i<cs.length
 ·have a8:IntKind.i64.wrap ((i:Int)+1)=((i+1:Nat):Int):=by rw [Ad (by unfold i64; omega)]; rfl
  have d1:decide ((i:Int)<(cs.length:Int))=true:=by simpa using la
  obtain ⟨c,hx⟩:=Ab la
  have hx':nth (cs.map A1) i=some (A1 c):=by rw [Bt,hx]; rfl
  simp only [A1] at hx'
  rw [Ar hx] at hs
  cases d2:sEq c.1 s with
  | true =>
   simp (maxSteps:=10^6)+contextual(disch:=try exact dqd)only[ev1,simprocAttr,AV.int,AV.bool,AV.str,results76,e1,e8,e9,e10,d1,d2,hx',a8,Aa]
   rw [hs,Eg,if_pos d2]
  | false =>
   simp (maxSteps:=10^6)+contextual(disch:=try exact dqd)only[ev1,simprocAttr,AV.int,AV.bool,AV.str,results76,e1,e8,e9,e10,d1,d2,hx',a8,Aa]
   exact IH (i+1) _ (by first|omega|(simp only; omega)) ⟨rfl,by first|omega|(dsimp only; omega),by rw [hs,Eg,if_neg (by rw [d2]; simp)],(by first|rfl|simp only [getT,List.map_append]),(by first|rfl|simp only [getT,List.map_append]),(by first|rfl|simp only [getT,List.map_append]),(by first|rfl|simp only [getT,List.map_append]),(by first|rfl|simp only [getT,List.map_append])⟩
 ·have d1:decide ((i:Int)<(cs.length:Int))=false:=by simpa using la
  rw [List.drop_eq_nil_of_le (by omega)] at hs
  simp (maxSteps:=10^6)+contextual(disch:=try exact dqd)only[ev1,simprocAttr,AV.int,AV.bool,AV.str,results76,e1,e8,e9,e10,d1]
  rw [hs,Eg]
theorem Ly (it et:Nat) (a b c d:AV) (vars:List ByteArray) (m:Nat) (h:entAt S it et=some [a,b,c,.frz (vars.map strC) .unk,d,intA m]) (hv:vars.length<=1000000) (hm:m<=1000000):cL prog 55 [.ref it et 0] S tk k=some (.int ((2*vars.length+m:Nat):Int),S,tk,k):=by
 have w1':IntKind.i64.wrap (2*(vars.length:Int))=((2*vars.length:Nat):Int):=by rw [Ad (by unfold i64; omega)]; rfl
 have w2':IntKind.i64.wrap (((2*vars.length:Nat):Int)+(m:Int))=((2*vars.length+m:Nat):Int):=by rw [Ad (by unfold i64; omega)]; rfl
 simp only [intA] at h
 refine opS func55 ntmps55 ?_
 simp (maxSteps:=10^6)+contextual(disch:=try exact dqd)only[evs1,simprocAttr,AV.int,AV.bool,AV.str,results55,h,w1',w2',List.length_map]
 try simp only [finS_some,List.take_length,fz3,fz2,fz1]
end
end
end Go.Proofs.YtcandeobhlfkbaaGreat
