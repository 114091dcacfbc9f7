/- Part 20. -/
import Derived.Test.YtcandeobhlfkbaaGreatZF19
import Derived.RangeFuncRecord
import Derived.RangeFuncOwn
import Derived.RangeFuncCalls
open Array renaming getElem?_eq_some_iff->Cj
open Bool renaming and_eq_true->Ch,or->Cl,false_eq_true->C8,or_eq_false_iff->Fe,true_and->Fs,or_false->Fv,or_assoc->Fy,or_eq_true->F8,not_eq_true'->Ir,false_or->I1,eq_iff_iff->iI
open Classical renaming byContradiction->Pn
open Go.IntKind renaming i64->Cf
open Go.IntWalk renaming i64_in->Og
open Go.Lib renaming hid->Cm
open Go.Proofs.YtcandeobhlfkbaaGreat.AV renaming bool->Cb,int->Cd,str->Ce
open Go.RowKit.Below renaming refl->C5
open Go.World renaming cell?->Fz,frozen?->iA
open Int renaming natAbs_mul->Ie,mul_ne_zero->Iw
open List renaming replicate->Ci,length_cons->Ck,mem_cons->Cn,map_cons->Cp,cons_append->Cr,length_append->Cs,getElem?_append_left->Ct,length_nil->Cu,nil_append->Cw,mem_cons_of_mem->Cz,mem_append->C4,getElem?_append_right->C6,mem_cons_self->C7,getElem?_eq_none->C9,range->De,append_assoc->Fa,take_of_length_le->Fc,length_eq_zero_iff->Fh,drop_length->Fo,getElem?_eq_some_iff->Fu,pairwise_cons->F0,getElem?_cons_zero->F2,append_nil->F4,mem_map->F9,take_length->Gl,mem_singleton->He,map_append->Ij,mem_of_getElem?->Ik,mem_replicate->Im,take_append_of_le_length->L1,take_append_drop->Mh,take->Oc,length_replicate->Oj,not_mem_nil->Ol,getElem?_toArray->O6,length_singleton->S6,length_drop->gQ,take_take->iV,Pairwise->jB
open List.cons renaming injEq->I6
open Nat renaming le_refl->Cc,zero_le->Co,le_trans->Fb,zero_add->Fg,mul_le_mul_right->Ic,reduceAdd->I2,reduceSub->I3,sub_self->I4,lt_of_le_of_lt->I5,succ_mul->Od,lt_trichotomy->Oh,le_add_right->Om,mul_le_mul->Ov,div_le_self->Se,succ_pos->Sw,add_sub_cancel->iY
open Ne renaming symm->Oo
open Option.some renaming injEq->A2
open Prod.mk renaming injEq->Cg
open Rat renaming intCast_mul->Em,intCast_neg->Oz,intCast_add->Sy,le_refl->Yo,intCast_pos->fZ,intCast_inj->iH
namespace Go.Proofs.YtcandeobhlfkbaaGreat
section
open Go Tryz Go.RowKit Go.Shelf
set_option maxHeartbeats 4000000
set_option maxRecDepth 100000
attribute [local go_sem] Oper.semAt_some
variable {A:Nat->Nat->Prop}
theorem Agk {F:Fence} {n:Nat} (hro:F.round=none) (hfa:∀ f,F.fn f) (hd:∀ k,F.depth.isSome=true->1<=k) {P:Program} {a:Act} {w:World} {g:Operand} {ps:Array Tmp} {assign body:Code} {Q:Exit->Act->World->Prop} (gf:FuncId) (lb:Array Value) (hg:a.eval g=.func (.func gf) #[] lb)
  (eg:∀ args w,(callFunc gf args).run P w=.ok (.enter gf args) w)
  (h:∀ (fn:FuncId) (rec:LoopState->Option Code->Loop),rec=(fun st pe=>{ state:=st,pending:=pe,fn,tmps:=a.tmps,params:=ps,assign,body,defers:=w.heap.size }) ->
   ∀ W1,(w.alloc (.deferred (some []))).alloc (.loop (rec .ready none))=W1 ->
    CallsIn F (n - 1) P gf (#[.func (.yield (w.heap.size+1)) #[] #[]]++lb) W1 (rangePost F n P (w.heap.size+1) Q { a with defers:=[{ target:=.collected w.heap.size,args:=#[] }]++a.defers })) :
  (Code.rangeFunc g ps assign body).wpIn F n P Q a w:=by
 refine wpIn_rangeFunc ?_;intro fn hfn;rw [hro];obtain ⟨rec,hrec⟩:∃ rec:LoopState->Option Code->Loop,rec=fun st pe=>{ state:=st,pending:=pe,fn,tmps:=a.tmps,params:=ps,assign,body,defers:=w.heap.size }:=⟨_,rfl⟩;obtain ⟨W1,hW1⟩:∃ W1,(w.alloc (.deferred (some []))).alloc (.loop (rec .ready none))=W1:=⟨_,rfl⟩;refine ⟨w.heap.size+1,[{ target:=.collected w.heap.size,args:=#[] }],W1,{ target:=.fn (.func gf) lb,args:=#[.func (.yield (w.heap.size+1)) #[] #[]] },W1,gf,
  #[.func (.yield (w.heap.size+1)) #[] #[]]++lb,W1,?_,?_,?_,?_,?_,?_⟩
 ·rw [<- hW1,hrec]; exact run_enterLoop_outer _ _ _ _ _
 ·have e1:(resolve a.eval (rangeCall g (w.heap.size+1)) 0).run P W1=.ok { target:=.fn (.func gf) lb,args:=#[.func (.yield (w.heap.size+1)) #[] #[]] } W1:=by
   simp only [resolve,hg];simp [go_sem]
  exact e1
 ·intro f' hf'; exact hfa f'
 ·have e2:(invoke (.fn (.func gf) lb) #[.func (.yield (w.heap.size+1)) #[] #[]]).run P W1=.ok (.enter gf (#[.func (.yield (w.heap.size+1)) #[] #[]]++lb)) W1:=by
   simp [invoke,go_sem,eg]
  exact e2
 ·exact hd _
 ·exact h fn rec hrec W1 hW1
def mk (r:Nat):Deferred:={ target:=.collected r,args:=#[] }
theorem Tf {n:Nat} {P:Program} {fn:Func} {tmps:Array Value} {R:Ending->World->Prop} : ∀ (ds:List Nat) (W:World),ds.Nodup->(∀ r ∈ ds,W.heap[r]?=some (.deferred (some []))) ->
  (∀ W':World,W'.heap.size=W.heap.size->W'.os=W.os->W'.tape=W.tape->W'.output=W.output->(∀ k,k ∉ ds->W'.heap[k]?=W.heap[k]?)->∃ v,(results fn tmps).run P W'=.ok v W'/\R (.returned v) W') ->
  LeavesInM Fence.wide n P fn tmps R (ds.map mk) .returning W
 | [],W,_,_,h=>h W rfl rfl rfl rfl fun _ _=>rfl
 | r :: ds,W,hnd,hd,h=>by
  obtain ⟨h1,h2⟩:=List.nodup_cons.1 hnd;have hr:=hd r (by simp);refine ⟨by simp,.inl ⟨r,_,rfl,run_takeDeferred hr,Tf ds _ h2 (fun k hk=>?_) fun W' g1 g2 g3 g4 g5=>h W' (by rw [g1,World.putObj_size]) g2 g3 g4 fun k hk=>?_⟩⟩
  ·rw [World.putObj_heap_other (fun e=>h1 (by rw [<- e]; exact hk))]; exact hd k (by simp [hk])
  ·simp only [Cn,not_or] at hk;rw [g5 k hk.2,World.putObj_heap_other hk.1]
theorem Vg:∀ (p:Pt) (u:Value),u ∈ L8 p->(∃ s,u=.string s)\/∃ n,u=.int .i64 n
 | [],u,h=>by simp [L8] at h
 | c :: r,u,h=>by
  simp only [L8,Cn] at h;rcases h with rfl|rfl|h
  ·exact .inl ⟨_,rfl⟩
  ·exact .inr ⟨_,rfl⟩
  ·exact Vg r u h
theorem lit40 {T:List Value} (h:T.length=40):∃ x0 x1 x2 x3 x4 x5 x6 x7 x8 x9 x10 x11 x12 x13 x14 x15 x16 x17 x18 x19 x20 x21 x22 x23 x24 x25 x26 x27 x28 x29 x30 x31 x32 x33 x34 x35 x36 x37 x38 x39,T=[x0,x1,x2,x3,x4,x5,x6,x7,x8,x9,x10,x11,x12,x13,x14,x15,x16,x17,x18,x19,x20,x21,x22,x23,x24,x25,x26,x27,x28,x29,x30,x31,x32,x33,x34,x35,x36,x37,x38,x39]:=by
 match T,h with
 | x0 :: x1 :: x2 :: x3 :: x4 :: x5 :: x6 :: x7 :: x8 :: x9 :: x10 :: x11 :: x12 :: x13 :: x14 :: x15 :: x16 :: x17 :: x18 :: x19 :: x20 :: x21 :: x22 :: x23 :: x24 :: x25 :: x26 :: x27 :: x28 :: x29 :: x30 :: x31 :: x32 :: x33 :: x34 :: x35 :: x36 :: x37 :: x38 :: x39 :: [],_=>exact ⟨x0,x1,x2,x3,x4,x5,x6,x7,x8,x9,x10,x11,x12,x13,x14,x15,x16,x17,x18,x19,x20,x21,x22,x23,x24,x25,x26,x27,x28,x29,x30,x31,x32,x33,x34,x35,x36,x37,x38,x39,rfl⟩
theorem tab40 {t:Array Value} (h:t.size=40):∃ x0 x1 x2 x3 x4 x5 x6 x7 x8 x9 x10 x11 x12 x13 x14 x15 x16 x17 x18 x19 x20 x21 x22 x23 x24 x25 x26 x27 x28 x29 x30 x31 x32 x33 x34 x35 x36 x37 x38 x39,t=#[x0,x1,x2,x3,x4,x5,x6,x7,x8,x9,x10,x11,x12,x13,x14,x15,x16,x17,x18,x19,x20,x21,x22,x23,x24,x25,x26,x27,x28,x29,x30,x31,x32,x33,x34,x35,x36,x37,x38,x39]:=by
 obtain ⟨l⟩:=t;obtain ⟨x0,x1,x2,x3,x4,x5,x6,x7,x8,x9,x10,x11,x12,x13,x14,x15,x16,x17,x18,x19,x20,x21,x22,x23,x24,x25,x26,x27,x28,x29,x30,x31,x32,x33,x34,x35,x36,x37,x38,x39,e⟩:=lit40 (T:=l) h;exact ⟨x0,x1,x2,x3,x4,x5,x6,x7,x8,x9,x10,x11,x12,x13,x14,x15,x16,x17,x18,x19,x20,x21,x22,x23,x24,x25,x26,x27,x28,x29,x30,x31,x32,x33,x34,x35,x36,x37,x38,x39,by rw [e]⟩
theorem Xv {tmps:Array Value} {W:World} {B:Nat} {v u:Value} (h4:tmps[4]?=some (.pointer (some ⟨B+1,0,none⟩))) (h5:tmps[5]?=some (.pointer (some ⟨B+2,0,none⟩))) (c4:W.cell? ⟨B+1,0,none⟩=some v) (c5:W.cell? ⟨B+2,0,none⟩=some u) :
  (results Tryz.f7 tmps).run prog W=.ok (.tuple #[v,u]) W:=by
 have hr:Tryz.f7.results=#[.cell 4 26,.cell 5 4]:=rfl;have ha:aggT prog 26=some false:=aL
 have hb:aggT prog 4=some false:=aL
 simp [results,hr,h4,h5,asAddr,loadVar,Mz ha,Mz hb];rw [c4];show (match W.cell? _ with|some v=>_|none=>_:Result Value).andThen _=_;rw [c5];rfl
theorem Aid:∀ {cs:List (ByteArray × Int)} {n:Int} {q:Option ByteArray},A8 n q cs=0->(∀ c ∈ cs,c.2.natAbs<=1000000000000)/\n.natAbs<=1000000000000
 | [],n,q,h=>by
  unfold A8 at h;split at h
  ·rename_i h1; rw [J5] at h1; exact ⟨by simp,aA⟩
  ·cases h
 | c :: r,n,q,h=>by
  unfold A8 at h;split at h
  ·cases h
  ·split at h
   ·cases h
   ·rename_i h1 h2;split at h
    ·cases h
    ·obtain ⟨h3,h4⟩:=Aid h;refine ⟨fun d hd=>?_,h4⟩;rcases Cn.1 hd with rfl|hd
     ·simp only [F8,Ir,not_or,Bool.not_eq_false,J5] at h2;omega
     ·exact h3 d hd
theorem Zp:∀ {l:List RowT},D7 l=0->∀ r ∈ l,B5 r.1 r.2.1=0
 | [],_=>fun r hr=>by simp at hr
 | r :: l,h=>by
  unfold D7 at h;by_cases h0:B5 r.1 r.2.1=0
  ·rw [h0] at h;simp only [bne_self_eq_false,C8,if_false] at h;intro x hx;rcases Cn.1 hx with rfl|hx
   ·exact h0
   ·exact Zp h x hx
  ·exact Ya1q
theorem Aqr {l:List RowT} (h:sysE l=0):Ac4 l:=by
 obtain ⟨h1,h2,-,h3⟩:=M2 h;have key:∀ r ∈ l,(∀ c ∈ r.1,c.2.natAbs<=1000000000000)/\r.2.1.natAbs<=1000000000000:=fun r hr=>by
  have:=Zp h3 r hr;unfold B5 at this;split at this
  ·cases this
  ·exact Aid this
 exact ⟨h2,h1,fun r hr=>(key r hr).1,fun r hr=>(key r hr).2⟩
theorem Ag1 (l:List RowT):(B4 l).Pairwise (·≠·):=(Ju (Ed l)).1.imp fun h e=>by subst e; exact D6 _ h
theorem Ap5 (l:List RowT) (most:Int) (w:World) (a:Option Addr) (cap:Nat) (hA:Hq A w) (hv:VR (Cq A w) (Ap l) (.slice a l.length cap)) :
  CallsIn Fence.wide 4 prog 7 #[.slice a l.length cap,.int .i64 most] w fun e w'=>∃ v,e=.returned (.tuple #[v,.bool (fndF l most).isSome])/\VR (Cq A w') (Ag ((fndF l most).getD [])) v/\Below w.heap.size w w':=by
 refine callsIn_of_wp_marks func7 rfl trivial ?_ rfl;simp only [ntmps7,List.size_toArray,Ck,Cu,I2,I3,Array.replicate_succ,Array.replicate_zero,List.push_toArray,List.append_toArray,Cw,Cr];obtain ⟨w1,hw1⟩:∃ w1,w1=((w.alloc (.cells #[.slice a l.length cap] 22)).alloc (.cells #[.slice none 0 0] 26)).alloc (.cells #[.bool false] 4):=⟨_,rfl⟩;have hb1:Below w.heap.size w w1:=by rw [hw1]; exact (((C5 _ w).alloc (Cc _) _).alloc (by simp) _).alloc aB _
 have hs1:w1.heap.size=w.heap.size+3:=by rw [hw1]; simp
 have hB0:w1.heap[w.heap.size]?=some (.cells #[.slice a l.length cap] 22 (0,0)):=by
  rw [hw1,Below.heap_alloc _ _ _ aB,Below.heap_alloc _ _ _ (by simp)]; exact An w _
 have hB1:w1.heap[w.heap.size+1]?=some (.cells #[.slice none 0 0] 26 (0,0)):=by
  rw [hw1,Below.heap_alloc _ _ _ (by simp)];have:=An (w.alloc (.cells #[.slice a l.length cap] 22)) (.cells #[.slice none 0 0] 26);exact Ya2w
 have hB2:w1.heap[w.heap.size+2]?=some (.cells #[.bool false] 4 (0,0)):=by
  rw [hw1];have:=An ((w.alloc (.cells #[.slice a l.length cap] 22)).alloc (.cells #[.slice none 0 0] 26)) (.cells #[.bool false] 4); rwa [World.size_alloc,World.size_alloc] at this
 have hrd:∀ {W:World},Below w1.heap.size w1 W->W.cell? ⟨w.heap.size,0,none⟩=some (.slice a l.length cap)/\W.cell? ⟨w.heap.size+1,0,none⟩=some (.slice none 0 0)/\W.frozen? ⟨w.heap.size+1,0,none⟩=false/\W.cell? ⟨w.heap.size+2,0,none⟩=some (.bool false)/\W.frozen? ⟨w.heap.size+2,0,none⟩=false:=by
  intro W hb;have h0:=(hb.block w.heap.size aA).trans hB0;have h1:=(hb.block (w.heap.size+1) aA).trans hB1;have h2:=(hb.block (w.heap.size+2) aA).trans hB2;simp [Fz,iA,h0,h1,h2]
 have hv1:VR (Cq A w1) (Ap l) (.slice a l.length cap):=hv.below0 hb1;have hC:=Ah8 (vs:=#[.slice a l.length cap]) (w:=w1) (hA.le hb1.size) (fun S tk k=>Mi S tk k l) (by simp only [VRs,and_true]; exact hv1);obtain ⟨r0,r1,r2,r3,r4⟩:=hrd (C5 _ w1);gi_wp2_with fail;rw [<- hw1];refine ⟨trivial,(callsIn_wide.2 hC).mono ?_⟩;clear hC;rintro e w2 ⟨v2,rfl,hb2,hv2⟩;simp only [VR] at hv2;subst hv2;obtain ⟨d0,d1,d2,d3,d4⟩:=hrd hb2;have hs2:=hb2.size;have none_case:∀ (W:World),Below w1.heap.size w1 W->fndF l most=none->∀ (R:Array Value),R[4]?=some (.pointer (some ⟨w.heap.size+1,0,none⟩))->R[5]?=some (.pointer (some ⟨w.heap.size+2,0,none⟩)) ->
   ∃ v,(results Tryz.f7 R).run prog ((W.setCell ⟨w.heap.size+1,0,none⟩ (.slice none 0 0)).setCell ⟨w.heap.size+2,0,none⟩ (.bool false))=.ok v ((W.setCell ⟨w.heap.size+1,0,none⟩ (.slice none 0 0)).setCell ⟨w.heap.size+2,0,none⟩ (.bool false)) /\
    ∃ u,Ending.returned v=.returned (.tuple #[u,.bool (fndF l most).isSome])/\VR (Cq A ((W.setCell ⟨w.heap.size+1,0,none⟩ (.slice none 0 0)).setCell ⟨w.heap.size+2,0,none⟩ (.bool false))) (Ag ((fndF l most).getD [])) u/\Below w.heap.size w ((W.setCell ⟨w.heap.size+1,0,none⟩ (.slice none 0 0)).setCell ⟨w.heap.size+2,0,none⟩ (.bool false)):=by
  intro W hW hf R h4 h5;obtain ⟨q0,q1,q2,q3,q4⟩:=hrd hW;refine ⟨.tuple #[.slice none 0 0,.bool false],Xv h4 h5 ?_ ?_,.slice none 0 0,by rw [hf] <;> rfl,?_,?_⟩
  ·rw [World.cell?_setCell_other _ _ _ _ (by simp)]; exact World.cell?_setCell_same' _ _ _ (by rw [q1]; rfl)
  ·exact World.cell?_setCell_same' _ _ _ (by rw [World.cell?_setCell_other _ _ _ _ (by simp),q3]; rfl)
  ·rw [hf]; simp only [Option.getD,Ag,VR]; exact ⟨_,_,_,rfl,rfl,Cc _,trivial,.inl rfl⟩
  ·exact ((hb1.trans (hW.mono aA)).setCell (p:=⟨w.heap.size+1,0,none⟩) (by simp) _).setCell (p:=⟨w.heap.size+2,0,none⟩) (by simp) _
 by_cases hsys:sysE l=0;case neg =>
  have hf:fndF l most=none:=by unfold fndF okF; simp [hsys]
  gi_wp2_with fail
  exact none_case w2 hb2 hf _ rfl rfl
 by_cases h0:most<0
 ·have hf:fndF l most=none:=Za16
  gi_wp2_with fail;exact none_case w2 hb2 hf _ rfl rfl
 by_cases h8:8<most
 ·have hf:fndF l most=none:=Za16
  have h8':most > 8:=h8;gi_wp2_with fail;exact none_case w2 hb2 hf _ rfl rfl
 have h8':¬ most > 8:=h8;have hV:=Ah8 (vs:=#[.slice a l.length cap]) (w:=w2) (hA.le (Fb hb1.size hb2.size)) (fun S tk k=>X0 S tk k l) (by simp only [VRs,and_true]; exact hv1.below0 hb2);gi_wp2_with fail;refine ⟨trivial,(callsIn_wide.2 hV).mono ?_⟩;clear hV;rintro e w3 ⟨v3,rfl,hb3,hv3⟩;have hvo:H0 l=B4 l:=if_pos hsys;rw [hvo] at hv3;obtain ⟨na,nc,rfl,hnc,hns⟩:=Aee hv3;have hb13:Below w1.heap.size w1 w3:=hb2.trans (hb3.mono hs2);by_cases h6:6<(B4 l).length
 ·have hf:fndF l most=none:=Za16
  have h6':((B4 l).length:Int) > 6:=aA
  obtain ⟨e0,e1,e2,e3,e4⟩:=hrd hb13;gi_wp2_with fail;exact none_case w3 hb13 hf _ rfl rfl
 have h6':¬ ((B4 l).length:Int) > 6:=aA
 obtain ⟨m,rfl⟩:∃ m:Nat,most=(m:Int):=⟨most.toNat,aA⟩;have hwm:Cf.wrap ((m:Int)+1)=(m:Int)+1:=Og _ aA;gi_wp2_with fail;have hnl:(B4 l).length<=6:=aA
 have hok:okF l (m:Int)=true:=by unfold okF; simp; omega
 have hfind:fndF l (m:Int)=Kn (satF l) (B4 l) 0 (m+1):=by unfold fndF; rw [if_pos hok]; rfl
 obtain ⟨I,hI⟩:∃ I:Act->World->Prop,I=fun a' W=>∃ (j:Nat) (ds:List Nat),a'.tmps.size=40/\a'.tmps[2]?=some (.pointer (some ⟨w.heap.size,0,none⟩))/\a'.tmps[4]?=some (.pointer (some ⟨w.heap.size+1,0,none⟩))/\a'.tmps[5]?=some (.pointer (some ⟨w.heap.size+1+1,0,none⟩)) /\
   a'.tmps[6]?=some (.slice na (B4 l).length nc)/\a'.tmps[26]?=some (.int .i64 ((m:Int)+1))/\a'.tmps[27]?=some (.int .i64 (j:Nat))/\a'.defers=ds.map mk/\j<=m+1/\(∀ r ∈ ds,W.heap[r]?=some (.deferred (some []))/\w3.heap.size<=r)/\ds.Nodup/\Below w3.heap.size w3 W /\
   Kn (satF l) (B4 l) 0 (m+1)=Kn (satF l) (B4 l) j (m+1 - j):=⟨_,rfl⟩
 refine wpIn_loop I (fun a' _=>m+1 - (Ko (a'.tmps.getD 27 undef)).toNat) ?_ ?_
 ·rw [hI];exact ⟨0,[],rfl,rfl,rfl,rfl,rfl,rfl,rfl,rfl,Co _,by simp,List.nodup_nil,C5 _ _,rfl⟩
 rintro ⟨t,df⟩ W hinv;rw [hI] at hinv;obtain ⟨j,ds,q0,q2,q4,q5,q6,q26,q27,rfl,hj,hds,hnd,hbW,hE⟩:=hinv;obtain ⟨x0,x1,x2,x3,x4,x5,x6,x7,x8,x9,x10,x11,x12,x13,x14,x15,x16,x17,x18,x19,x20,x21,x22,x23,x24,x25,x26,x27,x28,x29,x30,x31,x32,x33,x34,x35,x36,x37,x38,x39,rfl⟩:=tab40 q0;simp only [O6,List.getElem?_cons_succ,F2,A2] at q2 q4 q5 q6 q26 q27;subst q2 q4 q5 q6 q26 q27;have hb1W:Below w1.heap.size w1 W:=hb13.trans (hbW.mono hb13.size);obtain ⟨g0,g1,g2,g3,g4⟩:=hrd hb1W;by_cases hlt:j<m+1;case neg =>
  have hji:¬ ((j:Nat):Int)<(m:Int)+1:=aA
  have hn0:m+1 - j=0:=aA
  have hfn:fndF l (m:Int)=none:=by rw [hfind,hE,hn0]; rfl
  gi_wp2_with fail
  obtain ⟨X,hX⟩:∃ X,X=(W.setCell ⟨w.heap.size+1,0,none⟩ (.slice none 0 0)).setCell ⟨w.heap.size+1+1,0,none⟩ (.bool false):=⟨_,rfl⟩
  rw [<- hX]
  obtain ⟨v,k1,u,k2,k3,k4⟩:=none_case W hb1W hfn #[x0,x1,.pointer (some ⟨w.heap.size,0,none⟩),x3,.pointer (some ⟨w.heap.size+1,0,none⟩),.pointer (some ⟨w.heap.size+1+1,0,none⟩)] rfl rfl
  have hXh:∀ k,k≠w.heap.size+1->k≠w.heap.size+1+1->X.heap[k]?=W.heap[k]?:=fun k h1 h2=>by
   exact Ya3c
  have hs3:=hb13.size
  refine Tf (R:=_) ds X hnd (fun r hr=>by rw [hXh r dX dX]; exact (hds r hr).1) fun W' s1 s2 s3 s4 s5=>?_
  have cs:∀ {p:Addr} {v:Value},p.block<w3.heap.size->X.cell? p=some v->W'.cell? p=some v:=fun {p v} hp h=>by
   rw [World.cell?_of_block (w:=X) (s5 p.block fun hm=>by have:=(hds _ hm).2; omega)]; exact h
  have c1:X.cell? ⟨w.heap.size+1,0,none⟩=some (.slice none 0 0):=by
   rw [hX,World.cell?_setCell_other _ _ _ _ (by simp)]; exact World.cell?_setCell_same' _ _ _ (by rw [g1]; rfl)
  have c2:X.cell? ⟨w.heap.size+1+1,0,none⟩=some (.bool false):=by
   rw [hX]; exact World.cell?_setCell_same' _ _ _ (by rw [World.cell?_setCell_other _ _ _ _ (by simp),g3]; rfl)
  refine ⟨_,Xv (B:=w.heap.size) rfl rfl (cs aT c1) (cs aT c2),.slice none 0 0,by first|rfl|(rw [hn0]; rfl),?_,?_⟩
  ·try rw [hn0]
   simp only [Kn,Option.getD,Ag,VR]; exact ⟨_,_,_,rfl,rfl,Cc _,trivial,.inl rfl⟩
  ·have kb:Below w.heap.size w X:=by rw [hX]; exact k4
   exact ⟨s2.trans kb.os,s3.trans kb.tape,s4.trans kb.output,by rw [s1]; exact kb.size,fun k hk=>(s5 k fun hm=>by have:=(hds _ hm).2; omega).trans (kb.block k hk)⟩
 have hji:((j:Nat):Int)<(m:Int)+1:=aA
 have hP:=Akj W (.slice a l.length cap) (.slice na (B4 l).length nc) (j:Int) rfl rfl;gi_wp2_with fail;refine ⟨trivial,(callsIn_wide.2 (callsIn_wide.1 hP)).mono ?_⟩;clear hP;rintro e w4 ⟨rfl,hw4⟩;have hbW4:Below W.heap.size W w4:=by rw [hw4]; exact (((C5 _ W).alloc (Cc _) _).alloc (by simp) _).alloc aB _
 have hsW4:W.heap.size+3=w4.heap.size:=by rw [hw4]; simp
 have hP0:w4.heap[W.heap.size]?=some (.cells #[.slice a l.length cap] 22 (0,0)):=by
  rw [hw4,Below.heap_alloc _ _ _ aB,Below.heap_alloc _ _ _ (by simp)]; exact An W _
 have hP1:w4.heap[W.heap.size+1]?=some (.cells #[.slice na (B4 l).length nc] 41 (0,0)):=by
  rw [hw4,Below.heap_alloc _ _ _ (by simp)];have:=An (W.alloc (.cells #[.slice a l.length cap] 22)) (.cells #[.slice na (B4 l).length nc] 41);exact Ya2w
 have hP2:w4.heap[W.heap.size+2]?=some (.cells #[.int .i64 (j:Int)] 3 (0,0)):=by
  rw [hw4];have:=An ((W.alloc (.cells #[.slice a l.length cap] 22)).alloc (.cells #[.slice na (B4 l).length nc] 41)) (.cells #[.int .i64 (j:Int)] 3); rwa [World.size_alloc,World.size_alloc] at this
 have hsle:W.heap.size<=w4.heap.size:=hbW4.size;clear hw4;gi_wp2_with fail;refine Agk (n:=4) rfl (fun _=>trivial) hdw 38 #[.pointer (some ⟨W.heap.size,0,none⟩),.pointer (some ⟨W.heap.size+2,0,none⟩),.pointer (some ⟨W.heap.size+1,0,none⟩)] rfl (enters_of func38 aL rfl) ?_;intro fn rec hrec W1 hW1;have hL1:W1.heap[w4.heap.size+1]?=some (.loop (rec .ready none)):=by
  rw [<- hW1]; have:=World.alloc_heap_new (w4.alloc (.deferred (some []))) (.loop (rec .ready none));exact Ya2w
 have hK1:W1.heap[w4.heap.size]?=some (.deferred (some [])):=by
  rw [<- hW1]; exact (Below.heap_alloc _ _ _ (by simp)).trans (World.alloc_heap_new w4 _)
 have hbW1:Below w4.heap.size w4 W1:=by rw [<- hW1]; exact ((C5 _ w4).alloc (Cc _) _).alloc (by simp) _
 have hsW1:w4.heap.size+1<W1.heap.size:=by rw [<- hW1]; simp
 clear hW1;have hbW':Below W.heap.size W W1:=hbW4.trans (hbW1.mono hsle);have hs3:=hb13.size;have hsW:=hbW.size;have hds1:∀ r ∈ ds,r<W.heap.size:=fun r hr=>(Cj.1 (hds r hr).1).1;have hrounds:Q7 A l (B4 l).length W1 (w4.heap.size+1) (fun p W'=>W'.heap[w4.heap.size+1]?=some (.loop (rec .done (some .ret)))/\W'.heap[w4.heap.size]?=some (.deferred (some []))/\(∀ r ∈ ds,W'.heap[r]?=some (.deferred (some []))) /\
   (∃ v,W'.cell? ⟨w.heap.size+1,0,none⟩=some v/\VR (Cq A W') (Ag p) v)/\W'.cell? ⟨w.heap.size+2,0,none⟩=some (.bool true)/\Below w.heap.size w W'):=by
  intro V p v hpl hB hvp;have hl:V.heap[w4.heap.size+1]?=some (.loop (rec .ready none)):=(hB.block _ aA).trans hL1;have hk:V.heap[w4.heap.size]?=some (.deferred (some [])):=(hB.block _ aA).trans hK1;have hdV:∀ r ∈ ds,V.heap[r]?=some (.deferred (some [])):=fun r hr=>(hB.block r eD).trans ((hbW'.block r (hds1 r hr)).trans (hds r hr).1);have hy:=run_yield (P:=prog) (args:=#[v]) hl (by rw [hrec]; rfl);rw [hrec] at hy;refine ⟨fn,_,_,_,hy,roundIn_of_wpIn trivial ?_⟩;obtain ⟨pa,pc,rfl,hpc,hcells⟩:=Aej hvp;have HPL:=Cm hpl;clear hpl;have hsV:=hB.size;have hlt:w4.heap.size+1<V.heap.size:=aA
  gi_wp2_with fail;refine ⟨_,run_beginRound hl (by rw [hrec]),?_⟩;obtain ⟨Wb,hWb⟩:∃ Wb,Wb=V.putObj (w4.heap.size+1) (.loop { rec .ready none with state:=.busy }):=⟨_,rfl⟩;rw [<- hWb];have hsb:Wb.heap.size=V.heap.size:=by rw [hWb]; simp
  have hob:∀ k,k≠w4.heap.size+1->Wb.heap[k]?=V.heap[k]?:=fun k hk=>by rw [hWb,World.putObj_heap_other hk]
  have hlb:Wb.heap[w4.heap.size+1]?=some (.loop { rec .ready none with state:=.busy }):=by
   rw [hWb]; exact World.putObj_heap_same aA
  have hos:Wb.os=V.os/\Wb.tape=V.tape/\Wb.output=V.output:=by rw [hWb]; exact ⟨rfl,rfl,rfl⟩
  clear hWb;have hbV:Below w4.heap.size w4 V:=hbW1.trans (hB.mono aA);have hb4b:Below w4.heap.size w4 Wb:=⟨hos.1.trans hbV.os,hos.2.1.trans hbV.tape,hos.2.2.trans hbV.output,aA,fun k hk=>(hob k aA).trans (hbV.block k hk)⟩;have hb1b:Below w1.heap.size w1 Wb:=hb1W.trans ((hbW4.trans (hb4b.mono hsle)).mono hb1W.size);have hvb:VR (Cq A Wb) (Ag p) (.slice pa p.length pc):=by
   simp only [Ag,VR] at hvp ⊢;obtain ⟨a',len,cap',e0,e1,e2,-,e4⟩:=hvp;refine ⟨a',len,cap',e0,e1,e2,trivial,e4.imp id ?_⟩;rintro ⟨b,o,sz,rfl,hr⟩;refine ⟨b,o,sz,rfl,Bf.stays (A':=(Cq A Wb).Avoid) (fun b' o' v' hv' ha=>⟨?_,ha⟩) _ _ _ _ hr⟩;refine (World.cell?_of_block (w:=(Cq A V).w) (hob b' fun e=>?_)).trans hv';subst e;have hv'':V.cell? ⟨w4.heap.size+1,o',none⟩=some v':=hv';unfold Fz at hv'';dsimp only at hv'';rw [hl] at hv'';simp at hv''
  obtain ⟨z0,z1,z2,z3,z4⟩:=hrd hb1b;have hS:=Ah8 (vs:=#[.slice a l.length cap,.slice pa p.length pc]) (w:=Wb) (hA.le (Fb hb1.size hb1b.size)) (fun S tk k=>Hf S tk k l p (by have:=(M2 hsys).2.1; omega) (fun r hr=>by have:=(M2 hsys).1 r hr; omega) (by have:=HPL.out; omega)) (by
   simp only [VRs,and_true]; exact ⟨hv1.below0 hb1b,hvb⟩)
  clear hy;gi_wp2_with fail;refine ⟨trivial,(CallsIn.inRound (w4.heap.size+1) (callsIn_wide.2 hS)).mono ?_⟩;clear hS;rintro e w5 ⟨v5,rfl,hb5,hv5⟩;simp only [VR] at hv5;subst hv5;have hs5:=hb5.size;have hl5:w5.heap[w4.heap.size+1]?=some (.loop { rec .ready none with state:=.busy }):=(hb5.block _ aA).trans hlb;obtain ⟨z0,z1,z2,z3,z4⟩:=hrd (hb1b.trans (hb5.mono hb1b.size));cases hsat:satF l p with
  | false =>
   gi_wp2_with fail;refine ⟨_,_,run_endRound none hl5,.inl ⟨hsat,rfl,?_⟩⟩;obtain ⟨W6,hW6⟩:∃ W6,W6=w5.putObj (w4.heap.size+1) (.loop { ({ rec .ready none with state:=.busy } : Loop) with state:=if (none:Option Code).isNone then .ready else .done,pending:=none }):=⟨_,rfl⟩;rw [<- hW6];have h6s:W6.heap.size=w5.heap.size:=by rw [hW6]; simp
   have h6o:∀ k,k≠w4.heap.size+1->W6.heap[k]?=w5.heap[k]?:=fun k hk=>by rw [hW6,World.putObj_heap_other hk]
   have h6l:W6.heap[w4.heap.size+1]?=some (.loop (rec .ready none)):=by
    rw [hW6,World.putObj_heap_same aA,hrec]; rfl
   have h6e:W6.os=w5.os/\W6.tape=w5.tape/\W6.output=w5.output:=by rw [hW6]; exact ⟨rfl,rfl,rfl⟩
   clear hW6;refine ⟨h6e.1.trans (hb5.os.trans hos.1),h6e.2.1.trans (hb5.tape.trans hos.2.1),h6e.2.2.trans (hb5.output.trans hos.2.2),aA,fun k hk=>?_⟩;by_cases hkl:k=w4.heap.size+1
   ·rw [hkl,h6l,hl]
   ·rw [h6o k hkl,hb5.block k aA,hob k hkl]
  | true =>
   gi_wp2_with fail;obtain ⟨X,hX⟩:∃ X,X=(w5.setCell ⟨w.heap.size+1,0,none⟩ (.slice pa p.length pc)).setCell ⟨w.heap.size+1+1,0,none⟩ (.bool true):=⟨_,rfl⟩;rw [<- hX];have hXs:X.heap.size=w5.heap.size:=by rw [hX]; simp
   have hXo:∀ k,k≠w.heap.size+1->k≠w.heap.size+1+1->X.heap[k]?=w5.heap[k]?:=fun k h1 h2=>by
    exact Ya3c
   have hX1:X.cell? ⟨w.heap.size+1,0,none⟩=some (.slice pa p.length pc):=by
    rw [hX,World.cell?_setCell_other _ _ _ _ (by simp)]; exact World.cell?_setCell_same' _ _ _ (by rw [z1]; rfl)
   have hX2:X.cell? ⟨w.heap.size+1+1,0,none⟩=some (.bool true):=by
    rw [hX]; exact World.cell?_setCell_same' _ _ _ (by rw [World.cell?_setCell_other _ _ _ _ (by simp),z3]; rfl)
   have hb1V:Below w.heap.size w w5:=hb1.trans (((hb1b.trans (hb5.mono hb1b.size))).mono aA);have hbX:Below w.heap.size w X:=by
    rw [hX]; exact (hb1V.setCell (p:=⟨w.heap.size+1,0,none⟩) (by simp) _).setCell (p:=⟨w.heap.size+1+1,0,none⟩) aT _
   clear hX;have hlX:X.heap[w4.heap.size+1]?=some (.loop { rec .ready none with state:=.busy }):=by
    rw [hXo _ aA aA]; exact hl5
   refine ⟨_,_,run_endRound (some .ret) hlX,.inr ⟨hsat,rfl,?_⟩⟩;obtain ⟨Y,hYd⟩:∃ Y,Y=X.putObj (w4.heap.size+1) (.loop { ({ rec .ready none with state:=.busy } : Loop) with state:=if (some Code.ret).isNone then .ready else .done,pending:=some .ret }):=⟨_,rfl⟩;rw [<- hYd];have hYo:∀ k,k≠w4.heap.size+1->Y.heap[k]?=X.heap[k]?:=fun k hk=>by rw [hYd,World.putObj_heap_other hk]
   have hYl:Y.heap[w4.heap.size+1]?=some (.loop (rec .done (some .ret))):=by
    rw [hYd,World.putObj_heap_same aA,hrec]; rfl
   have hYe:Y.os=X.os/\Y.tape=X.tape/\Y.output=X.output/\Y.heap.size=X.heap.size:=by rw [hYd]; exact ⟨rfl,rfl,rfl,World.putObj_size⟩
   clear hYd;have up:∀ k,k≠w4.heap.size+1->k≠w.heap.size+1->k≠w.heap.size+1+1->k<V.heap.size->Y.heap[k]?=V.heap[k]?:=fun k h1 h2 h3 h4=>by
    rw [hYo k h1,hXo k h2 h3,hb5.block k aA,hob k h1]
   refine ⟨hYl,?_,fun r hr=>?_,⟨.slice pa p.length pc,?_,?_⟩,?_,?_⟩
   ·rw [up _ aA aA aA aA]; exact hk
   ·rw [up r eD dX dX eD]; exact hdV r hr
   ·rw [World.cell?_of_block (w:=X) (hYo _ aB)]; exact hX1
   ·rcases hcells with rfl|⟨b,o,rfl,hcl⟩
    ·simp only [Ag,VR]; exact ⟨_,_,_,rfl,rfl,hpc,trivial,.inl rfl⟩
    ·refine Anm hpc fun q u hq=>?_;obtain ⟨hq',hna⟩:=hcl q u hq;have hone:∀ (v:Value),v=u->(∃ s,v=.string s)\/∃ n,v=.int .i64 n:=fun v hv=>by
      subst hv; exact Vg p _ (Ik hq)
     have hbV1:Below w1.heap.size w1 V:=hb1W.trans ((hbW4.trans (hbV.mono hsle)).mono hb1W.size);have n1:b≠w.heap.size+1:=fun e=>by
      subst e;have hh:=(hbV1.block (w.heap.size+1) aA).trans hB1;simp only [Fz,hh] at hq';have hq2:(#[Value.slice none 0 0]:Array Value)[o+q]?=some u:=by simpa using hq'
      have:u=.slice none 0 0:=by
       have hm:=Array.mem_of_getElem? hq2;simpa using hm
      exact Ya31
     have n2:b≠w.heap.size+1+1:=fun e=>by
      subst e;have hh:=(hbV1.block (w.heap.size+2) aA).trans hB2;simp only [Fz,hh] at hq';have hq2:(#[Value.bool false]:Array Value)[o+q]?=some u:=by simpa using hq'
      have:u=.bool false:=by
       have hm:=Array.mem_of_getElem? hq2;simpa using hm
      exact Ya31
     have n3:b≠w4.heap.size+1:=fun e=>by
      subst e;unfold Fz at hq';dsimp only at hq';rw [hl] at hq';simp at hq'
     exact ⟨(World.cell?_of_block (w:=V) (up b n3 n1 n2 (Ea hq'))).trans hq',hna⟩
   ·rw [World.cell?_of_block (w:=X) (hYo _ aB)]; exact hX2
   ·exact ⟨hYe.1.trans hbX.os,hYe.2.1.trans hbX.tape,hYe.2.2.1.trans hbX.output,by rw [hYe.2.2.2]; exact hbX.size,fun k hk=>(hYo k aA).trans (hbX.block k hk)⟩
 have rd:∀ {V:World},Below w4.heap.size w4 V->V.cell? ⟨W.heap.size,0,none⟩=some (.slice a l.length cap)/\V.cell? ⟨W.heap.size+1,0,none⟩=some (.slice na (B4 l).length nc)/\V.cell? ⟨W.heap.size+2,0,none⟩=some (.int .i64 (j:Int)):=by
  intro V hb;have h0:=(hb.block W.heap.size aA).trans hP0;have h1:=(hb.block (W.heap.size+1) aA).trans hP1;have h2:=(hb.block (W.heap.size+2) aA).trans hP2;simp [Fz,h0,h1,h2]
 obtain ⟨p0,p1,p2⟩:=rd hbW1;have hbl:Below w1.heap.size w1 W1:=hb1W.trans (hbW'.mono hb1W.size);have hb3l:Below w3.heap.size w3 W1:=hbW.trans (hbW'.mono hsW);refine ((callsIn_wide.2 (callsIn_wide.1 (Agf (W:=W1) (hA.le (Fb hb1.size hbl.size)) (Aqr hsys) hnl (Ag1 l) ⟨aA,aA⟩ hrounds ⟨_,p0,hv1.below0 hbl⟩ p2 ⟨_,p1,hv3.below0 hb3l⟩)))).mono ?_;rintro e W7 ⟨⟨v7,rfl⟩,(⟨hf0,hb7⟩|⟨p,hf0,hl7,hk7,hd7,⟨pv,hc7,hv7⟩,hc8,hb7⟩)⟩
 ·have hl7:W7.heap[w4.heap.size+1]?=some (.loop (rec .ready none)):=(hb7.block _ aA).trans hL1;have hk7:W7.heap[w4.heap.size]?=some (.deferred (some [])):=(hb7.block _ aA).trans hK1;refine ⟨_,_,run_endLoop hl7 (by rw [hrec]; simp),?_⟩;rw [show (rec .ready none).pending=none by rw [hrec]];dsimp only;obtain ⟨W8,hW8⟩:∃ W8,W8=W7.putObj (w4.heap.size+1) (.loop { (rec .ready none) with state:=.exhausted,pending:=none }):=⟨_,rfl⟩;rw [<- hW8];have h8o:∀ k,k≠w4.heap.size+1->W8.heap[k]?=W7.heap[k]?:=fun k hk=>by rw [hW8,World.putObj_heap_other hk]
  have h8e:W8.os=W7.os/\W8.tape=W7.tape/\W8.output=W7.output/\W8.heap.size=W7.heap.size:=Za2h
  clear hW8;have hk8:=(h8o w4.heap.size aA).trans hk7;have hb47:Below W.heap.size W W7:=hbW'.trans (hb7.mono hbW'.size);have hb48:Below W.heap.size W W8:=⟨h8e.1.trans hb47.os,h8e.2.1.trans hb47.tape,h8e.2.2.1.trans hb47.output,by rw [h8e.2.2.2]; exact hb47.size,fun k hk=>(h8o k aA).trans (hb47.block k hk)⟩;have hwj:Cf.wrap ((j:Int)+1)=((j+1:Nat):Int):=by rw [Og _ aA]; omega
  have hstep:Kn (satF l) (B4 l) j (m+1 - j)=Kn (satF l) (B4 l) (j+1) (m+1 - (j+1)):=by
   have e1:m+1 - j=(m+1 - (j+1))+1:=aA
   rw [e1,Kn,hf0]
  gi_wp2_with fail;refine ⟨⟨j+1,aA,w4.heap.size :: ds,rfl,aA,fun r hr=>?_,?_,?_,?_⟩,dL⟩
  ·rcases Cn.1 hr with rfl|hr
   ·exact ⟨hk8,aA⟩
   ·have:=hds1 r hr;refine ⟨?_,(hds r hr).2⟩;rw [hb48.block r this]; exact (hds r hr).1
  ·exact List.nodup_cons.2 ⟨fun hm=>by have:=hds1 _ hm; omega,hnd⟩
  ·exact hbW.trans (hb48.mono hsW)
  ·rw [show m+1 - (j+1)=m - j by omega]
 ·have hs7:=hb7.size;refine ⟨_,_,run_endLoop hl7 (by rw [hrec]; simp),?_⟩;rw [show (rec .done (some .ret)).pending=some .ret by rw [hrec]];dsimp only;obtain ⟨W8,hW8⟩:∃ W8,W8=W7.putObj (w4.heap.size+1) (.loop { (rec .done (some .ret)) with state:=.exhausted,pending:=some .ret }):=⟨_,rfl⟩;rw [<- hW8];have h8o:∀ k,k≠w4.heap.size+1->W8.heap[k]?=W7.heap[k]?:=fun k hk=>by rw [hW8,World.putObj_heap_other hk]
  have h8e:W8.os=W7.os/\W8.tape=W7.tape/\W8.output=W7.output/\W8.heap.size=W7.heap.size:=Za2h
  clear hW8;have hk8:=(h8o w4.heap.size aA).trans hk7;have hd8:∀ r ∈ ds,W8.heap[r]?=some (.deferred (some [])):=fun r hr=>(h8o r eD).trans (hd7 r hr);have hfp:Kn (satF l) (B4 l) j (m+1 - j)=some p:=by
   have e1:m+1 - j=(m - j)+1:=aA
   rw [e1,Kn,hf0]
  have hnd2:(w4.heap.size :: ds).Nodup:=List.nodup_cons.2 ⟨fun hm=>by have:=hds1 _ hm; omega,hnd⟩;have hfl:fndF l (m:Int)=some p:=by rw [hfind,hE,hfp]
  gi_wp2_with fail;refine Tf (w4.heap.size :: ds) W8 hnd2 (fun r hr=>by
   rcases Cn.1 hr with rfl|hr
   ·exact hk8
   ·exact hd8 r hr) fun W' s1 s2 s3 s4 s5=>?_
  have hno:∀ {b o:Nat} {u:Value},W7.cell? ⟨b,o,none⟩=some u->b≠w4.heap.size+1/\b ∉ w4.heap.size :: ds:=fun {b o u} h=>by
   refine ⟨fun e=>?_,fun hm=>?_⟩
   ·subst e;unfold Fz at h;dsimp only at h;rw [hl7] at h;simp at h
   ·have hh:W7.heap[b]?=some (.deferred (some [])):=by
     rcases Cn.1 hm with rfl|hm
     ·exact hk7
     ·exact hd7 b hm
    unfold Fz at h;dsimp only at h;rw [hh] at h;simp at h
  have keep:∀ {b o:Nat} {u:Value},W7.cell? ⟨b,o,none⟩=some u->W'.cell? ⟨b,o,none⟩=some u:=fun {b o u} h=>by
   obtain ⟨n1,n2⟩:=hno h;rw [World.cell?_of_block (w:=W8) (s5 b n2),World.cell?_of_block (w:=W7) (h8o b n1)]; exact h
  refine ⟨_,Xv (B:=w.heap.size) rfl rfl (keep hc7) (keep hc8),pv,?_,?_,?_⟩
  ·first|rfl|(rw [hfl]; rfl)|(simp only [hfp]; rfl)
  ·have hgoal:VR (Cq A W') (Ag p) pv:=by
    simp only [Ag,VR] at hv7 ⊢;obtain ⟨a',len,cap',e0,e1,e2,-,e4⟩:=hv7;refine ⟨a',len,cap',e0,e1,e2,trivial,e4.imp id ?_⟩;rintro ⟨b,o,sz,rfl,hr⟩;exact ⟨b,o,sz,rfl,Bf.stays (A':=(Cq A W').Avoid) (fun b' o' v' hv' ha=>⟨keep hv',ha⟩) _ _ _ _ hr⟩
   first|exact hgoal|(rw [hfl]; exact hgoal)|(simp only [hfp]; exact hgoal)
  ·refine ⟨s2.trans (h8e.1.trans hb7.os),s3.trans (h8e.2.1.trans hb7.tape),s4.trans (h8e.2.2.1.trans hb7.output),by rw [s1,h8e.2.2.2]; exact hb7.size,fun k hk=>?_⟩;rw [s5 k (fun hm=>by
    rcases Cn.1 hm with rfl|hm
    ·omega
    ·have:=(hds k hm).2; omega),h8o k aA]
   exact hb7.block k hk
end
section
open Go
theorem Apl {a b:Int} (h:a.natAbs<b.natAbs):befF a b=true:=by
 unfold befF;rw [if_neg aA]; simpa using h
theorem Ae9:∀ n,(Px n).Pairwise fun a b=>befF a b=true
 | 0=>by simp [Px]
 | n+1=>by
  rw [Px,List.pairwise_append];refine ⟨Ae9 n,?_,fun x hx y hy=>?_⟩
  ·simp only [F0,Cn,Ol,or_false,forall_eq,false_implies,implies_true,jB.nil,and_true];unfold befF;rw [if_pos aA];simp only [decide_eq_true_eq]; omega
  ·rw [Xe] at hx;simp only [Cn,Ol,or_false] at hy;exact Apl aA
theorem An9 (r:Int):(Hc r).Pairwise fun a b=>befF a b=true:=by
 unfold Hc;split
 ·exact jB.nil
 ·exact Ae9 _
theorem Vf {α β:Type} {f:α->Option β} {R:α->α->Prop} : ∀ {l:List α} {y:β},l.Pairwise R->l.findSome? f=some y->∃ a ∈ l,f a=some y/\∀ b ∈ l,b=a\/R a b\/f b=none
 | [],_,_,h=>aN
 | x :: l,y,hp,h=>by
  obtain ⟨h1,h2⟩:=F0.1 hp;rw [List.findSome?_cons] at h;cases hx:f x with
  | some z =>
   rw [hx] at h;simp only [A2] at h;subst h;refine ⟨x,by simp,hx,fun b hb=>?_⟩;rcases Cn.1 hb with rfl|hb
   ·exact .inl rfl
   ·exact .inr (.inl (h1 b hb))
  | none =>
   rw [hx] at h;obtain ⟨a,ha,e,h3⟩:=Vf h2 h;refine ⟨a,by simp [ha],e,fun b hb=>?_⟩;rcases Cn.1 hb with rfl|hb
   ·exact .inr (.inr hx)
   ·exact h3 b hb
def Lex:Pt->Pt->Prop
 | x :: a,y :: b=>befF x.2 y.2=true\/(x.2=y.2/\Lex a b)
 | _,_=>False
def AtR (r:Int) (ns:List ByteArray) (reached:Bool) (ext:Pt):Prop:=ext.map (·.1)=ns/\(∀ x ∈ ext,x.2 ∈ Hc r)/\(reached=true\/∃ x ∈ ext,x.2=r\/x.2=-r)
theorem Acu {r:Int} {s:ByteArray} {ns:List ByteArray} {reached:Bool} {ext:Pt} (h:AtR r (s :: ns) reached ext):∃ n ext',ext=(s,n) :: ext'/\n ∈ Hc r/\AtR r ns (reached || n == r || n == -r) ext':=by
 obtain ⟨h1,h2,h3⟩:=h;match ext,h1 with
 | [],h1=>simp at h1
 | x :: ext',h1 =>
  rw [Cp,I6] at h1;refine ⟨x.2,ext',by rw [<- h1.1],h2 x (by simp),h1.2,fun y hy=>h2 y dE,?_⟩;rcases h3 with h3|⟨y,hy,h3⟩
  ·left; simp [h3]
  ·rcases Cn.1 hy with rfl|hy
   ·left;rcases h3 with h3|h3 <;> simp [h3]
   ·exact .inr ⟨y,hy,h3⟩
theorem M0 {sat:Pt->Bool} {r:Int} : ∀ {ns:List ByteArray} {pt:Pt} {reached:Bool},B3 sat r ns pt reached=none->∀ ext,AtR r ns reached ext->sat (pt++ext)=false
 | [],pt,reached,h,ext,ha=>by
  obtain ⟨h1,-,h3⟩:=ha;have he:ext=[]:=aR
  subst he;have hr:reached=true:=by
   rcases h3 with h3|⟨x,hx,-⟩
   ·exact h3
   ·simp at hx
  simp only [B3] at h;split at h
  ·cases h
  ·rename_i hs;rw [hr,Fs] at hs;simpa using hs
 | s :: ns,pt,reached,h,ext,ha=>by
  obtain ⟨n,ext',rfl,hn,ha'⟩:=Acu ha;simp only [B3] at h;rw [List.findSome?_eq_none_iff] at h;have:=M0 (h n hn) ext' ha';rw [Fa] at this;exact Ya15
theorem P9 {sat:Pt->Bool} {r:Int} : ∀ {ns:List ByteArray} {pt:Pt} {reached:Bool} {ext ext2:Pt},B3 sat r ns pt reached=some (pt++ext)->AtR r ns reached ext2->sat (pt++ext2)=true->ext2=ext\/Lex ext ext2
 | [],pt,reached,ext,ext2,h,h2,hs=>by
  have e2:ext2=[]:=by simpa using h2.1
  simp only [B3] at h;split at h
  ·simp only [A2] at h;have:ext=[]:=by simpa using h.symm
   exact .inl (by rw [e2,this])
  ·cases h
 | s :: ns,pt,reached,ext,ext2,h,h2,hs=>by
  obtain ⟨n2,ext2,rfl,az,iv⟩:=Acu h2;simp only [B3] at h;obtain ⟨n,hn,h1,aw⟩:=Vf (An9 r) h;obtain ⟨-,ex,he,-,-,-⟩:=Kb h1;rw [Fa,List.append_cancel_left_eq] at he;subst he;rcases aw n2 az with rfl|h3|h3
  ·have h4:B3 sat r ns (pt++[(s,n2)]) (reached || n2 == r || n2 == -r)=some ((pt++[(s,n2)])++ex):=by rw [h1]; simp
   rcases P9 h4 iv fC with rfl|h5
   ·left; rfl
   ·right; exact .inr ⟨rfl,h5⟩
  ·right; exact .inl h3
  ·have:=M0 h3 ext2 iv;rw [Fa] at this;rw [show [(s,n2)]++ext2=(s,n2) :: ext2 from rfl,hs] at this;cases this
theorem Zn {t:ByteArray} {a:Pt} (h:∀ x ∈ a,x.1≠t):findS t a=0:=Decidable.byContradiction fun h0=>by
 obtain ⟨c,hc,e⟩:=G9 h0;exact h c hc e
theorem Ng {s:ByteArray} {n:Int} {a:Pt} : findS s ((s,n) :: a)=n:=by
 rw [findS,if_pos (by rw [Kj]; simp)]
theorem J4 {s t:ByteArray} {n:Int} {a:Pt} (h:s≠t):findS t ((s,n) :: a)=findS t a:=by
 rw [findS,if_neg (by rw [Kj]; simpa using h)]
theorem Aab:∀ {ns:List ByteArray} {a b:Pt},Inc ns->a.map (·.1)=ns->b.map (·.1)=ns->Lex a b->∃ s,befF (findS s a) (findS s b)=true/\∀ t,nm t<nm s->findS t a=findS t b
 | [],a,b,_,ha,_,h=>by
  have:a=[]:=by simpa using ha
  subst this; exact h.elim
 | s :: ns,a,b,hi,ha,hb,h=>by
  obtain ⟨i1,i2⟩:=F0.1 hi;match a,b,ha,hb with
  | x :: a,y :: b,ha,hb =>
  obtain ⟨xs,xv⟩:=x;obtain ⟨ys,yv⟩:=y;simp only [Cp,I6] at ha hb;obtain ⟨rfl,iv⟩:=ha;obtain ⟨rfl,hb2⟩:=hb;have na:∀ t,¬ nm ys<nm t->findS t a=0:=fun t ht=>Zn fun x hx e=>ht (by rw [<- e]; exact i1 x.1 (by rw [<- iv]; exact List.mem_map_of_mem hx));have nb:∀ t,¬ nm ys<nm t->findS t b=0:=fun t ht=>Zn fun x hx e=>ht (by rw [<- e]; exact i1 x.1 (by rw [<- hb2]; exact List.mem_map_of_mem hx));rcases h with h|⟨hv,h⟩
  ·refine ⟨ys,by rw [Ng,Ng]; exact h,fun t ht=>?_⟩;have hne:ys≠t:=by rintro rfl; exact D6 _ ht
   rw [J4 hne,J4 hne,na t fun h2=>D6 _ (Ha ht h2),nb t fun h2=>D6 _ (Ha ht h2)]
  ·simp only at hv;subst hv;obtain ⟨s2,h1,h2⟩:=Aab i2 iv hb2 h;have hne:ys≠s2:=by
    rintro rfl;rw [na _ (D6 _),nb _ (D6 _),Adf] at h1;cases h1
   refine ⟨s2,by rw [J4 hne,J4 hne]; exact h1,fun t ht=>?_⟩;by_cases ah:ys=t
   ·subst ah; rw [Ng,Ng]
   ·rw [J4 ah,J4 ah]; exact h2 t ht
theorem Wv:∀ {a:Pt},Inc (a.map (·.1))->∀ c ∈ a,findS c.1 a=c.2
 | [],_,c,hc=>by simp at hc
 | x :: a,hi,c,hc=>by
  obtain ⟨i1,i2⟩:=F0.1 hi;rcases Cn.1 hc with rfl|hc
  ·exact Ng
  ·have hlt:nm x.1<nm c.1:=i1 c.1 (List.mem_map_of_mem hc);have hne:x.1≠c.1:=fun e=>D6 (nm x.1) (by have h2:=hlt; rwa [<- e] at h2);exact (J4 (s:=x.1) (n:=x.2) hne).trans (Wv i2 c hc)
theorem Mx {a:Pt} (hi:Inc (a.map (·.1))) (n:Nat):radF a<=n↔∀ c ∈ a,c.2.natAbs<=n:=by
 rw [Tw];constructor
 ·intro h c hc;have:=h c.1;rwa [Wv hi c hc] at this
 ·intro h s;by_cases h0:findS s a=0
  ·rw [h0]; simp
  ·obtain ⟨c,hc,rfl⟩:=G9 h0;rw [Wv hi c hc]; exact h c hc
theorem Aqk {a:Pt} (hi:Inc (a.map (·.1))):radF a=0\/∃ c ∈ a,c.2.natAbs=radF a:=by
 cases hr:radF a with
 | zero=>exact .inl rfl
 | succ n =>
  right;refine Pn fun hx=>?_;have:radF a<=n:=(Mx hi n).2 fun c hc=>by
   have h1:=(Mx hi (n+1)).1 aA c hc;have h2:c.2.natAbs≠n+1:=fun e=>hx ⟨c,hc,e⟩;omega
  omega
theorem Ar0 {a:Pt} {ns:List ByteArray} (hi:Inc ns) (ha:a.map (·.1)=ns) (h8:radF a<=8):AtR (radF a:Nat) ns (((radF a:Nat):Int) == 0) a:=by
 subst ha;refine ⟨rfl,fun x hx=>?_,?_⟩
 ·rw [Nt aA aA];have:=(Mx hi (radF a)).1 (Cc _) x hx;omega
 ·rcases Aqk hi with h|⟨c,hc,h⟩
  ·left; simp [h]
  ·right;exact ⟨c,hc,aA⟩
theorem Ar1 {a:Pt} {ns:List ByteArray} {r:Nat} (hi:Inc ns) (h8:r<=8) (h:AtR (r:Nat) ns ((r:Int) == 0) a):radF a=r:=by
 obtain ⟨rfl,h2,h3⟩:=h;have hle:radF a<=r:=(Mx hi r).2 fun c hc=>by
  have:=(Nt aA aA).1 (h2 c hc);omega
 rcases h3 with h3|⟨x,hx,h3⟩
 ·have:r=0:=fD
  omega
 ·have:=(Mx hi (radF a)).1 (Cc _) x hx;omega
theorem Zt {sat:Pt->Bool} {ns:List ByteArray} : ∀ {k j:Nat} {p:Pt},Kn sat ns j k=some p->∃ r:Nat,j<=r/\r<j+k/\B3 sat (r:Int) ns [] ((r:Int) == 0)=some p/\∀ i:Nat,j<=i->i<r->B3 sat (i:Int) ns [] ((i:Int) == 0)=none
 | 0,j,p,h=>by simp [Kn] at h
 | k+1,j,p,h=>by
  rw [Kn] at h;cases hs:B3 sat (j:Int) ns [] ((j:Int) == 0) with
  | some q =>
   rw [hs] at h;simp only [A2] at h;subst h;exact ⟨j,Cc _,aA,hs,fun i h1 h2=>aA⟩
  | none =>
   rw [hs] at h;obtain ⟨r,h1,h2,h3,h4⟩:=Zt h;refine ⟨r,aA,aA,h3,fun i h5 h6=>?_⟩;by_cases he:i=j
   ·subst he; exact hs
   ·exact h4 i aA h6
theorem Zs {sat:Pt->Bool} {ns:List ByteArray} : ∀ {k j:Nat} {p:Pt},Kn sat ns j k=some p->Kn sat ns j (k+1)=some p
 | 0,j,p,h=>by simp [Kn] at h
 | k+1,j,p,h=>by
  rw [Kn] at h ⊢;cases hs:B3 sat (j:Int) ns [] ((j:Int) == 0) with
  | some q=>rw [hs] at h; exact h
  | none=>rw [hs] at h; exact Zs h
def insF (most:Int):Pt->List ByteArray->Bool
 | [],[]=>true
 | c :: p,s :: ns=>(sEq c.1 s && (decide (c.2 >= -most) && decide (c.2<=most))) && insF most p ns
 | _,_=>false
theorem W9 {most:Int} : ∀ {p:Pt} {ns:List ByteArray},insF most p ns=true↔p.map (·.1)=ns/\∀ c ∈ p,-most<=c.2/\c.2<=most
 | [],[]=>by simp [insF]
 | [],_ :: _=>by simp [insF]
 | _ :: _,[]=>by simp [insF]
 | c :: p,s :: ns=>by
  have he:sEq c.1 s=true↔c.1=s:=by rw [Kj]; simp
  simp only [insF,Ch,decide_eq_true_eq,he,W9 (p:=p),Cp,I6,Cn,forall_eq_or_imp];constructor
  ·rintro ⟨⟨h1,h2,h3⟩,h4,h5⟩; exact ⟨⟨h1,h4⟩,⟨h2,h3⟩,h5⟩
  ·rintro ⟨⟨h1,h4⟩,⟨h2,h3⟩,h5⟩; exact ⟨⟨h1,h2,h3⟩,h4,h5⟩
theorem Aoa (l:List RowT):Inc (B4 l):=(Ju _).1
theorem Xk {l:List RowT} {most:Int} (h:okF l most=true):sysE l=0/\0<=most/\most<=8/\(B4 l).length<=6:=by
 unfold okF at h;simp only [Ch,decide_eq_true_eq] at h;exact ⟨h.1.1.1,h.1.1.2,h.1.2,h.2⟩
theorem Zo {l:List RowT} {most:Int} {q:Pt} (h:fndF l most=some q):okF l most=true/\satF l q=true/\insF most q (B4 l)=true /\
  (∀ p,insF most p (B4 l)=true->satF l p=true->ordF q p<=0)/\(most<=7->fndF l (most+1)=some q):=by
 unfold fndF at h;split at h;rotate_left
 ·cases h
 rename_i hok;obtain ⟨o1,o2,o3,o4⟩:=Xk hok;have hi:=Aoa l;obtain ⟨r,h1,h2,h3,h4⟩:=Zt h;obtain ⟨g1,ext,g2,g3,g4,g5⟩:=Kb h3;simp only [Cw] at g2;subst g2;have ma:AtR (r:Nat) (B4 l) ((r:Int) == 0) q:=⟨g3,g4,g5⟩;have hr:=Ar1 hi aA ma;have hq:=(Mx (g3 ▸ hi) r).1 aA;refine ⟨hok,g1,W9.2 ⟨g3,fun c hc=>by have:=hq c hc; omega⟩,fun p hp hs=>?_,fun h7=>?_⟩
 ·obtain ⟨p1,p2⟩:=W9.1 hp;have jq:Inc (p.map (·.1)):=p1 ▸ hi;have l9:radF p<=most.toNat:=(Mx jq _).2 fun c hc=>by have:=p2 c hc; omega
  have hown:=Ar0 hi p1 aA;have f9:r<=radF p:=by
   refine Decidable.byContradiction fun hlt=>?_;have:=M0 (h4 (radF p) aA aA) p hown;rw [Cw,hs] at this;cases this
  by_cases heq:radF p=r
  ·rw [heq] at hown;rcases P9 (pt:=[]) (ext:=q) h3 hown hs with rfl|a2f
   ·rw [Anj]; omega
   ·obtain ⟨s,b1,b2⟩:=Aab hi g3 p1 a2f;exact Aoy (.inl (.inr ⟨aA,s,b1,b2⟩))
  ·exact Aoy (.inl (.inl aA))
 ·unfold fndF;have dh:okF l (most+1)=true:=by
   unfold okF;simp only [Ch,decide_eq_true_eq];exact ⟨⟨⟨o1,aA⟩,aA⟩,o4⟩
  rw [if_pos dh];have:(most+1).toNat+1=(most.toNat+1)+1:=aA
  rw [this];exact Zs h
end
section
open Go Tryz
def Qe (i:Nat):List ByteArray->ByteArray->Int
 | [],_=>-1
 | x :: l,s=>if sEq x s then i else Qe (i+1) l s
theorem Anz (a b:ByteArray):sEq a b=sEq b a:=by
 unfold sEq; rw [iI,beq_iff_eq,beq_iff_eq]; exact ⟨Eq.symm,Eq.symm⟩
section
variable (S:List Ent) (tk:List Nat) (k:Nat)
theorem Aax (l:List ByteArray) (s:ByteArray) (hlen:l.length<=1000000):cL prog 106 [.frz (l.map strC) .unk,.str s] S tk k=some (.int (Qe 0 l s),S,tk,k):=by
 refine opP func106 ntmps106 (hp3:=rfl) ?_;simp (maxSteps:=10^6)+contextual(disch:=try exact dqd)only[ev1,simprocAttr,Cd,Cb,Ce,results106];refine loop1 (P:=prog) (fun x st=>st.T.length=19/\(x<=l.length)/\(Qe 0 l s=Qe x (l.drop x) s)/\getT st.T 0=.frz (l.map strC) .unk/\getT st.T 1=.str s/\getT st.T 7=.int (l.length:Nat)/\getT st.T 8=.int (x:Nat)/\st.S=[]) (fun x=>l.length - x) (fun x=>.int (Qe 0 l s)) (0) ?_ ?_;case refine_2=>exact ⟨rfl,Co _,rfl,rfl,rfl,rfl,rfl,rfl⟩
 rintro i ⟨T,S',tk',n'⟩ ⟨hl,hi,hA,e0,e1,e7,e8,eS⟩ IH;subst eS;obtain ⟨g,hg,hT⟩:=Au hl;rw [hg] at e0 e1 e7 e8;subst hT;clear hg hl;by_cases la:i<l.length
 ·have d1:decide ((i:Int)<(l.length:Int))=true:=by simpa using la
  obtain ⟨x,hx⟩:=Af la;have hx':nth (l.map strC) i=some (strC x):=by rw [D3,hx]; rfl
  have hw:Cf.wrap ((i:Int)+1)=((i+1:Nat):Int):=aU
  rw [Ay hx] at hA;simp only [Qe] at hA;have hcm:=Anz s x;cases hq:sEq x s <;> rw [hq] at hA hcm
  ·simp (maxSteps:=10^6)+contextual(disch:=try exact dqd)only[ev1,simprocAttr,Cd,Cb,Ce,results106,e0,e1,e7,e8,d1,hx',hw,strC,hq,hcm];exact IH (i+1) _ aF ⟨rfl,aE,by simpa using hA,rfl,rfl,rfl,rfl,rfl⟩
  ·simp (maxSteps:=10^6)+contextual(disch:=try exact dqd)only[ev1,simprocAttr,Cd,Cb,Ce,results106,e0,e1,e7,e8,d1,hx',hw,strC,hq,hcm];simpa using hA.symm
 ·have d1:decide ((i:Int)<(l.length:Int))=false:=by simpa using la
  have he:i=l.length:=aA
  simp (maxSteps:=10^6)+contextual(disch:=try exact dqd)only[ev1,simprocAttr,Cd,Cb,Ce,results106,e0,e1,e7,e8,d1];rw [hA,he,Fo]; rfl
theorem Vp (l:List ByteArray) (s:ByteArray) (hlen:l.length<=1000000):cL prog 86 [.frz (l.map strC) .unk,.str s] S tk k=some (.int (Qe 0 l s),S,tk,k):=by
 have h:=fun S tk k=>Aax S tk k l s hlen;refine opP func86 ntmps86 (hp3:=rfl) ?_;simp (maxSteps:=10^6)+contextual(disch:=try exact dqd)only[ev1,simprocAttr,Cd,Cb,Ce,results86,h]
end
theorem Ru:∀ {l:List ByteArray} {s:ByteArray} {i:Nat},s ∈ l->∃ j,j<l.length/\Qe i l s=((i+j:Nat):Int)/\nth l j=some s
 | [],_,_,h=>aN
 | x :: l,s,i,h=>by
  by_cases hx:sEq x s=true
  ·refine ⟨0,by simp,?_,?_⟩
   ·unfold Qe; rw [if_pos hx]; rfl
   ·have:x=s:=by rw [Kj] at hx; simpa using hx
    rw [this]; rfl
  ·rcases Cn.1 h with rfl|h
   ·exact absurd (by rw [Kj]; simp) hx
   ·obtain ⟨j,h1,h2,h3⟩:=Ru (i:=i+1) h;refine ⟨j+1,aR,?_,h3⟩;unfold Qe; rw [if_neg hx,h2]; congr 1; omega
def idxV (vars:List ByteArray) (s:ByteArray):Nat:=(Qe 0 vars s).toNat
theorem Nk {l:List ByteArray} {s:ByteArray} (h:s ∈ l):Qe 0 l s=((idxV l s:Nat):Int)/\idxV l s<l.length:=by
 obtain ⟨j,h1,h2,h3⟩:=Ru (i:=0) h;unfold idxV;rw [h2];exact ⟨aA,aA⟩
def setC (F:Fld) (u z:Q) (ix:Nat) (row:List Q) (n:Int):List Q × Bool :=
 (put (put row (2*ix) (F.times u (F.whole n).1).1) (2*ix+1) (F.minus z (F.times u (F.whole n).1).1).1,((F.whole n).2 || (F.times u (F.whole n).1).2) || (F.minus z (F.times u (F.whole n).1).1).2)
def coefsC (F:Fld) (u z:Q) (vars:List ByteArray):List (ByteArray × Int)->List Q->List Q × Bool
 | [],row=>(row,false)
 | c :: cs,row=>((coefsC F u z vars cs (setC F u z (idxV vars c.1) row c.2).1).1,(setC F u z (idxV vars c.1) row c.2).2 || (coefsC F u z vars cs (setC F u z (idxV vars c.1) row c.2).1).2)
def Jf (F:Fld) (real W k:Nat) (c r:Q):Q × Bool:=if k<real\/k=W - 1 then F.minus c r else (c,false)
def costL (F:Fld) (real W:Nat):Nat->List Q->List Q->List Q × Bool
 | k,c :: cs,r :: rs=>((Jf F real W k c r).1 :: (costL F real W (k+1) cs rs).1,(Jf F real W k c r).2 || (costL F real W (k+1) cs rs).2)
 | _,cs,_=>(cs,false)
def Jv (F:Fld) (flip:Bool):Q × Bool:=if flip=true then ((F.whole (-1)).1,(F.whole 1).2 || (F.whole (-1)).2) else F.whole 1
def Td (F:Fld) (u z:Q) (n:Int):Q × Bool:=((F.minus z (F.times u (F.whole n).1).1).1,((F.whole n).2 || (F.times u (F.whole n).1).2) || (F.minus z (F.times u (F.whole n).1).1).2)
def N9 (eq:Bool) (row:List Q) (slack:Nat) (u:Q):List Q:=if eq=true then row else put row slack u
def D2 (r:RowT):Bool:=decide (0<r.2.1)
def rowF (F:Fld) (z:Q) (vars:List ByteArray) (real W i slack:Nat) (r:RowT):List Q × Bool :=
 let u:=Jv F (D2 r)
 let a:=coefsC F u.1 z vars r.1 (Ci W z)
 let y:=Td F u.1 z r.2.1
 (put (put (N9 r.2.2 a.1 slack u.1) (real+i) (F.whole 1).1) (W - 1) y.1,((u.2 || a.2) || (F.whole 1).2) || y.2)
def begS (F:Fld) (z:Q) (vars:List ByteArray) (real W:Nat):List RowT->Nat->Nat->Tb->Tb
 | [],_,_,t=>t
 | r :: l,i,slack,t =>
  let a:=rowF F z vars real W i slack r
  let c:=costL F real W 0 t.cost a.1
  begS F z vars real W l (i+1) (if r.2.2=true then slack else slack+1) { t with rows:=t.rows++[a.1],cost:=c.1,basis:=t.basis++[real+i],flip:=t.flip++[D2 r],fl:=(t.fl || a.2) || c.2 }
def neqs:List RowT->Nat
 | []=>0
 | r :: l=>(if r.2.2=true then 0 else 1)+neqs l
def Bq (F:Fld) (l:List RowT) (vars:List ByteArray) (fl:Bool):Tb :=
 let z:=F.whole 0
 let real:=2*vars.length+neqs l
 let W:=real+l.length+1
 begS F z.1 vars real W l 0 (2*vars.length) { vars:=vars.length,real:=real,rows:=[],cost:=Ci W z.1,basis:=[],flip:=[],fl:=fl || z.2 }
end
section
open Go
def Nh:Code->Nat
 | .seq a _=>Nh a
 | .region id _ _=>id
 | .block _ c=>Nh c
 | .loop c=>Nh c
 | .scope c=>Nh c
 | _=>0
def K5 (n:Nat):Code->List Nat->List Kont->Option (Code × List Kont)
 | .seq a b,lv,k=>match K5 n a lv (.seq b :: k) with|some r=>some r|none=>K5 n b lv k
 | .block id c,lv,k=>K5 n c lv (.block id :: k)
 | .scope c,lv,k=>K5 n c lv k
 | .cond _ a b,lv,k=>match K5 n a lv k with|some r=>some r|none=>K5 n b lv k
 | .loop c,lv,k=>if (Nh c == n)=true then some (.loop c,k) else match lv with
  | x :: lv=>K5 n c lv (.loop c x :: k)
  | []=>none
 | _,_,_=>none
def Ajz (fn:Func) (n:Nat) (lv:List Nat):Option (Code × List Kont):=match fn.body with|some c=>K5 n c lv []|none=>none
section
variable [Globs] {P:Program} [Ext P] {fn:Func}
noncomputable def KA (P:Program) [Ext P] (fn:Func) (n:Nat) (lv:List Nat) (st:St):Option (AV × St):=match Ajz fn n lv with|some (c,k)=>RK P fn c st k|none=>none
theorem Afe {n:Nat} {lv:List Nat} {c:Code} {k:List Kont} (h:Ajz fn n lv=some (c,k)) {st:St} {fin:Option (AV × St)->Option Rs} {Φ:Rs->Prop} {t:Tag (c,k)} (hg:Gd fin Φ (KX P fn c st k t)):Gd fin Φ (KA P fn n lv st):=by unfold KA; rw [h]; exact hg
theorem Qf {n:Nat} {lv:List Nat} {c:Code} {k:List Kont} (h:Ajz fn n lv=some (c,k)) {st:St} {fin:Option (AV × St)->Option Rs} {Φ:Rs->Prop} {t:Tag (c,k)} (hg:Gd fin Φ (KA P fn n lv st)):Gd fin Φ (KX P fn c st k t):=by unfold KA at hg; rw [h] at hg; exact hg
end
theorem Mr:∀ l:List RowT,neqs l<=l.length
 | []=>Cc _
 | r :: l=>by
  have:=Mr l;unfold neqs;split <;> simp only [Ck] <;> omega
theorem Nw {l:List RowT} {q:Nat} {r:RowT} (h:nth l q=some r):neqs (l.drop q)=(if r.2.2=true then 0 else 1)+neqs (l.drop (q+1)):=by
 rw [Ay h]; rfl
section
variable {P:Program} {t:TypeId} {x:AV} {S:List Ent} {n:Nat}
theorem Qp {a b c d e:Nat} : lit1 1 1 [(0,.sref a b c d e)]=some (.lit 1 [.sref a b c d e]):=rfl
theorem Ahy (h:apT P t=some 1) (hx:leafOk x=true):apO P t (.frz [] .nilc) (.lit 1 [x]) S n=some (.sref S.length n 0 1 1,S++[⟨n,[x]⟩],n+1):=by
 have hl:litC 1 (.lit 1 [x])=some (1,[x]):=by simp [litC,hx]
 exact Ya2x
theorem Ahx {c:Cap} (h:apT P t=some 1) (hx:leafOk x=true):apO P t (.frz [] .nilc) (.frz [[x]] c) S n=some (.sref S.length n 0 1 1,S++[⟨n,[x]⟩],n+1):=by
 have hl:litC 1 (.frz [[x]] c)=some (1,[x]):=by simp [litC,hx,B9]
 exact Ya2x
theorem Adb {id ep len:Nat} {cs:List AV} (h:apT P t=some 1) (hx:leafOk x=true) (hE:entAt S id ep=some cs) (hc:cs.length=len) (h0:0<len) (h1:len+1<=1048576):apO P t (.sref id ep 0 len 1) (.lit 1 [x]) S n=some (.sref id n 0 (len+1) 1,put S id ⟨n,cs++[x]⟩,n+1):=by
 have hl:litC 1 (.lit 1 [x])=some (1,[x]):=by simp [litC,hx]
 exact Ya0j
theorem Ada {id ep len:Nat} {cs:List AV} {c:Cap} (h:apT P t=some 1) (hx:leafOk x=true) (hE:entAt S id ep=some cs) (hc:cs.length=len) (h0:0<len) (h1:len+1<=1048576):apO P t (.sref id ep 0 len 1) (.frz [[x]] c) S n=some (.sref id n 0 (len+1) 1,put S id ⟨n,cs++[x]⟩,n+1):=by
 have hl:litC 1 (.frz [[x]] c)=some (1,[x]):=by simp [litC,hx,B9]
 exact Ya0j
end
structure BegC (S:List Ent) (l:List RowT) (vars:List ByteArray) (iq c W:Nat):Prop where
 hl:l.length<=1000
 lq:vars.length<=1000
 hv:∀ r ∈ l,∀ c ∈ r.1,c.1 ∈ vars
 hc:∀ r ∈ l,i64 r.2.1/\∀ c ∈ r.1,i64 c.2
 d6:fewC l
 mc:iq<S.length
 sn:c=2*vars.length+neqs l
 t8:W=c+l.length+1
end
section
open Go
end
section
open Go
def Kq (t t':Tb):Prop:=t'.real=t.real/\t'.vars=t.vars/\t'.cost.length=t.cost.length/\t'.rows.length=t.rows.length
theorem Kq.refl (t:Tb):Kq t t:=⟨rfl,rfl,rfl,rfl⟩
theorem Kq.trans {a b c:Tb} (h:Kq a b) (h':Kq b c):Kq a c:=⟨h'.1.trans h.1,h'.2.1.trans h.2.1,h'.2.2.1.trans h.2.2.1,h'.2.2.2.trans h.2.2.2⟩
theorem Xb {F:Fld} {l m:List Q} {c:Nat} : (lessT F l m c).1.length=l.length:=by
 unfold lessT;split
 ·split
  ·rfl
  ·exact Np
 ·rfl
theorem J6 {F:Fld} {row:List Q} {c i:Nat} : ∀ {l:List (List Q)} {k:Nat},(lessRows F row c i k l).1.length=l.length
 | [],_=>rfl
 | r :: l,k=>by simp only [lessRows,Ck,J6]
theorem Aki {F:Fld} {t:Tb} {i c:Nat} : Kq t (D9 F t i c):=⟨rfl,rfl,Xb,by simp only [D9,J6,Aj]⟩
theorem Wo {F:Fld} : ∀ {K:Nat} {t t':Tb} {b:Bool},H2 F K t=some (b,t')->Kq t t'
 | 0,_,_,_,h=>by simp [H2] at h
 | K+1,t,t',b,h=>by
  unfold H2 at h;split at h
  ·exact Ya28
  ·split at h
   ·exact Ya28
   ·split at h
    ·simp only [A2,Cg] at h; obtain ⟨-,rfl⟩:=h; exact ⟨rfl,rfl,rfl,rfl⟩
    ·have h2:=Wo h;have h3:∀ (u:Tb) (i c:Nat),Kq u (D9 F u i c):=fun u i c=>Aki;have h4:=(h3 _ _ _).trans h2;exact ⟨h4.1,h4.2.1,h4.2.2.1,h4.2.2.2⟩
theorem Wn {F:Fld} {real W:Nat} : ∀ {c r:List Q} {k:Nat},(costL F real W k c r).1.length=c.length
 | [],_,_=>by simp [costL]
 | a :: c,[],_=>rfl
 | a :: c,b :: r,k=>by simp only [costL,Ck,Wn]
theorem Ah4 {F:Fld} {z:Q} {vars:List ByteArray} {real W:Nat} : ∀ {l:List RowT} {i sl:Nat} {t:Tb},(begS F z vars real W l i sl t).real=t.real/\(begS F z vars real W l i sl t).vars=t.vars/\(begS F z vars real W l i sl t).cost.length=t.cost.length/\(begS F z vars real W l i sl t).rows.length=t.rows.length+l.length
 | [],_,_,_=>⟨rfl,rfl,rfl,rfl⟩
 | r :: l,i,sl,t=>by
  unfold begS;simp only;have h:=Ah4 (F:=F) (z:=z) (vars:=vars) (real:=real) (W:=W) (l:=l) (i:=i+1) (sl:=if r.2.2=true then sl else sl+1) (t:={ t with rows:=t.rows++[(rowF F z vars real W i sl r).1],cost:=(costL F real W 0 t.cost (rowF F z vars real W i sl r).1).1,basis:=t.basis++[real+i],flip:=t.flip++[D2 r],fl:=(t.fl || (rowF F z vars real W i sl r).2) || (costL F real W 0 t.cost (rowF F z vars real W i sl r).1).2 });simp only [Wn,Cs,Ck,Cu] at h ⊢;exact ⟨h.1,h.2.1,h.2.2.1,aA⟩
theorem Rb {F:Fld} {l:List RowT} {vars:List ByteArray} {fl:Bool} : (Bq F l vars fl).real=2*vars.length+neqs l/\(Bq F l vars fl).vars=vars.length/\(Bq F l vars fl).cost.length=2*vars.length+neqs l+l.length+1/\(Bq F l vars fl).rows.length=l.length:=by
 unfold Bq;have h:=Ah4 (F:=F) (z:=(F.whole 0).1) (vars:=vars) (real:=2*vars.length+neqs l) (W:=2*vars.length+neqs l+l.length+1) (l:=l) (i:=0) (sl:=2*vars.length) (t:={ vars:=vars.length,real:=2*vars.length+neqs l,rows:=[],cost:=Ci (2*vars.length+neqs l+l.length+1) (F.whole 0).1,basis:=[],flip:=[],fl:=fl || (F.whole 0).2 });simp only [Oj,Cu,Fg] at h ⊢;exact h
def lsC:Option Q->List AV
 | none=>[.prim (.bool false),.frz [] .nilc,.prim (.bool false),.frz [] .nilc]
 | some q=>ceW q
def ansC (f:Bool) (pt nu:List Q) (c1 c2:Cap) (least:Option Q) (bd:Bool):List AV:=[.prim (.bool f),.frz (pt.map ceW) c1,.frz (nu.map ceW) c2]++lsC least++[.prim (.bool bd)]
def ans0:List AV:=[.prim (.bool false),.frz [] .nilc,.frz [] .nilc,.prim (.bool false),.frz [] .nilc,.prim (.bool false),.frz [] .nilc,.prim (.bool false)]
structure Ans where
 f:Bool
 pt:List Q
 nu:List Q
 least:Option (Q × Bool)
def Kl (F:Fld) (K:Nat) (l:List RowT) (vars:List ByteArray) (fl:Bool):Option (Ans × Bool) :=
 match H2 F K (Bq F l vars fl) with
 | none=>none
 | some (_,t)=>if (F.stop && t.fl)=true then some (⟨false,[],[],none⟩,false) else
  if J3 t=true then some (⟨true,(E3 F t).1.map F.rat,[],none⟩,!(F.stop && (t.fl || (E3 F t).2)))
  else some (⟨false,[],(H3 F t).1.map F.rat,none⟩,!(F.stop && (t.fl || (H3 F t).2)))
def tS (a:Q):Bool:=smB a.1 && smB a.2
def tN (a:Q):Int:=if tS a=true then a.1 else 0
def tD (a:Q):Int:=if tS a=true then a.2 else 0
structure Tiny (a:Q):Prop where
 n:tN a=a.1
 d:tD a=a.2
 l1:a.1.natAbs<100000000
 l2:a.2.natAbs<100000000
 pos:0<a.2
def sgI (r:RowT):Int:=if -r.2.1<0 then -1 else 1
def iQ (n:Int):Q:=(n,1)
def App:List (ByteArray × Int)->ByteArray->Int
 | [],_=>0
 | c :: cs,s=>if sEq c.1 s=true then c.2 else App cs s
def Asm (s:Int) (cs:List (ByteArray × Int)):List ByteArray->List Q
 | []=>[]
 | v :: vs=>iQ (s*App cs v) :: iQ (-s*App cs v) :: Asm s cs vs
def lineN (m i:Nat) (r:RowT) (k:Nat):Int:=if k=m+i then 1 else if k=i/\r.2.2=false then sgI r else 0
def lineR (vars:List ByteArray) (m i:Nat) (r:RowT):List Q:=Asm (sgI r) r.1 vars++(De (2*m)).map (fun k=>iQ (lineN m i r k))++[iQ (sgI r*-r.2.1)]
def Aor (vars:List ByteArray) (m:Nat):Nat->List RowT->List (List Q)
 | _,[]=>[]
 | i,r :: l=>lineR vars m i r :: Aor vars m (i+1) l
end
section
open Go
end
section
open Go
structure AptR (I:TI):Prop where
 tr:I.it≠I.ir
 tc:I.it≠I.ic
 tb:I.it≠I.ib
 rc:I.ir≠I.ic
 rb:I.ir≠I.ib
 cb:I.ic≠I.ib
 row:∀ p ∈ I.ids,p.1≠I.it/\p.1≠I.ir/\p.1≠I.ic/\p.1≠I.ib
 rows:∀ i j p q,nth I.ids i=some p->nth I.ids j=some q->i≠j->p.1≠q.1
structure RTab (S:List Ent) (I:TI) (t:Tb) (vars:List ByteArray) (m:Nat) (c:Cap):Prop where
 top:entAt S I.it I.et=some [.sref I.ir I.er 0 t.rows.length 1,.sref I.ib I.eb 0 t.rows.length 1,.sref I.ic I.ec 0 t.cost.length 4,.frz (vars.map strC) .unk,.frz (t.flip.map Dw) c,intA m]
 nids:I.ids.length=t.rows.length
 rowsE:entAt S I.ir I.er=some (I.ids.map (fo t.cost.length 4))
 rowE:∀ i p r,nth I.ids i=some p->nth t.rows i=some r->entAt S p.1 p.2=some (flat ceW r)
 rowW:∀ r ∈ t.rows,r.length=t.cost.length
 costE:entAt S I.ic I.ec=some (flat ceW t.cost)
 basisE:entAt S I.ib I.eb=some (t.basis.map intA)
 nb:t.basis.length=t.rows.length
 ap:AptR I
 okr:∀ r ∈ t.rows,okL WW.qF r
 okc:okL WW.qF t.cost
 bigW:t.cost.length<=1000000
 bigM:t.rows.length<=1000000
 posM:0<t.rows.length
 posW:0<t.cost.length
def OutR (I:TI) (j:Nat):Prop:=j≠I.it/\j≠I.ir/\j≠I.ic/\j≠I.ib/\∀ p ∈ I.ids,j≠p.1
section
variable {S S':List Ent} {I:TI} {t:Tb} {vars:List ByteArray} {m:Nat} {c:Cap}
theorem RTab.lt (h:RTab S I t vars m c):I.it<S.length/\I.ir<S.length/\I.ic<S.length/\I.ib<S.length/\∀ p ∈ I.ids,p.1<S.length:=by
 refine ⟨A9 h.top,A9 h.rowsE,A9 h.costE,A9 h.basisE,fun p hp=>?_⟩;exact Yam
theorem RTab.out (h:RTab S I t vars m c) {j:Nat} (hj:S.length<=j):OutR I j:=by
 obtain ⟨h1,h2,h3,h4,h5⟩:=h.lt;exact ⟨aA,aA,aA,aA,fun p hp=>by have:=h5 p hp; omega⟩
theorem RTab.frame (h:RTab S I t vars m c) (hS:∀ j,j<S.length->¬ OutR I j->nth S' j=nth S j):RTab S' I t vars m c:=by
 obtain ⟨h1,h2,h3,h4,h5⟩:=h.lt;have k1:=hS I.it h1 fun h=>h.1 rfl;have k2:=hS I.ir h2 fun h=>h.2.1 rfl;have k3:=hS I.ic h3 fun h=>h.2.2.1 rfl;have k4:=hS I.ib h4 fun h=>h.2.2.2.1 rfl;have k5:∀ p ∈ I.ids,nth S' p.1=nth S p.1:=fun p hp=>hS p.1 (h5 p hp) fun h=>h.2.2.2.2 p hp rfl;exact ⟨by rw [Aa k1]; exact h.top,h.nids,by rw [Aa k2]; exact h.rowsE,fun i p r hp hr=>by rw [Aa (k5 p (Am hp))]; exact h.rowE i p r hp hr,h.rowW,by rw [Aa k3]; exact h.costE,by rw [Aa k4]; exact h.basisE,h.nb,h.ap,h.okr,h.okc,h.bigW,h.bigM,h.posM,h.posW⟩
theorem RTab.app (h:RTab S I t vars m c) (L:List Ent):RTab (S++L) I t vars m c:=h.frame fun j hj _=>Bo hj
theorem RTab.row (h:RTab S I t vars m c) {i:Nat} {p:Nat × Nat} {r':List Q} (hp:nth I.ids i=some p) (hi:i<t.rows.length) (hl:r'.length=t.cost.length) (ho:okL WW.qF r') (hS:∀ j,j≠p.1->j<S.length->nth S' j=nth S j) (he:entAt S' p.1 p.2=some (flat ceW r')) :
  RTab S' I { t with rows:=put t.rows i r' } vars m c:=by
 obtain ⟨h1,h2,h3,h4,h5⟩:=h.lt;have ji:=h.ap.row p (Am hp);have key:∀ j e,j≠p.1->j<S.length->entAt S' j e=entAt S j e:=fun j e a b=>Aa (hS j a b);refine ⟨?_,by rw [Aj]; exact h.nids,?_,fun j q r hq ab=>?_,fun r ab=>?_,?_,?_,Za4w,h.ap,fun r ab=>?_,h.okc,h.bigW,by rw [Aj]; exact h.bigM,by rw [Aj]; exact h.posM,h.posW⟩
 ·rw [key _ _ ji.1.symm h1,Aj]; exact h.top
 ·rw [key _ _ ji.2.1.symm h2]; exact h.rowsE
 ·rw [K8 hi] at ab;by_cases e:j=i
  ·exact Ya1a
  ·rw [if_neg e] at ab;rw [key _ _ (h.ap.rows j i q p hq hp e) (h5 q (Am hq))];exact Ya27
 ·exact Ya1j
 ·rw [key _ _ ji.2.2.1.symm h3]; exact h.costE
 ·rw [key _ _ ji.2.2.2.symm h4]; exact h.basisE
 ·rcases Bp ab with rfl|ab
  ·exact ho
  ·exact h.okr r ab
theorem RTab.setRow (h:RTab S I t vars m c) {i:Nat} {q:Nat × Nat} {r':List Q} (hi:i<t.rows.length) (hl:r'.length=t.cost.length) (ho:okL WW.qF r') (hq:nth I.ids i=some q\/OutR I q.1) (he:entAt S q.1 q.2=some (flat ceW r')) :
  RTab (put S I.ir ⟨I.er,put (I.ids.map (fo t.cost.length 4)) i (fo t.cost.length 4 q)⟩) { I with ids:=put I.ids i q } { t with rows:=put t.rows i r' } vars m c:=by
 obtain ⟨h1,h2,h3,h4,h5⟩:=h.lt;have hii:i<I.ids.length:=by rw [h.nids]; exact hi
 have zl:q.1≠I.it/\q.1≠I.ir/\q.1≠I.ic/\q.1≠I.ib:=by
  rcases hq with hq|hq
  ·exact h.ap.row q (Am hq)
  ·exact ⟨hq.1,hq.2.1,hq.2.2.1,hq.2.2.2.1⟩
 have hqd:∀ j p,j≠i->nth I.ids j=some p->p.1≠q.1:=fun j p hj hp=>by
  rcases hq with hq|hq
  ·exact h.ap.rows j i p q hp hq hj
  ·exact (hq.2.2.2.2 p (Am hp)).symm
 refine ⟨?_,by simp only [Aj]; exact h.nids,?_,fun j p r hp ab=>?_,fun r ab=>?_,?_,?_,by simp only [Aj]; exact h.nb,⟨h.ap.tr,h.ap.tc,h.ap.tb,h.ap.rc,h.ap.rb,h.ap.cb,fun p hp=>?_,fun a b p p' ha hb hab=>?_⟩,fun r ab=>?_,h.okc,h.bigW,by simp only [Aj]; exact h.bigM,by simp only [Aj]; exact h.posM,h.posW⟩
 ·rw [Ah h.ap.tr.symm]; simp only [Aj]; exact h.top
 ·rw [Ai h2,<- Pp]
 ·have ed:nth (put I.ids i q) j=some p:=hp;rw [K8 hii] at ed;rw [K8 hi] at ab;by_cases e:j=i
  ·rw [if_pos e] at ed ab;simp only [A2] at ed ab;subst ed; subst ab;rw [Ah zl.2.1.symm]; exact he
  ·rw [if_neg e] at ed ab;rw [Ah (h.ap.row p (Am ed)).2.1.symm]; exact h.rowE j p r ed ab
 ·exact Ya1j
 ·rw [Ah h.ap.rc]; exact h.costE
 ·rw [Ah h.ap.rb]; exact h.basisE
 ·rcases Bp hp with rfl|hp
  ·exact zl
  ·exact h.ap.row p hp
 ·have ha':nth (put I.ids i q) a=some p:=ha;have xz:nth (put I.ids i q) b=some p':=hb;rw [K8 hii] at ha' xz;by_cases e:a=i
  ·rw [if_pos e] at ha';rw [if_neg (fun e2=>hab (e.trans e2.symm))] at xz;simp only [A2] at ha';subst ha';exact (hqd b p' (fun e2=>hab (e.trans e2.symm)) xz).symm
  ·rw [if_neg e] at ha';by_cases e2:b=i
   ·rw [if_pos e2] at xz;simp only [A2] at xz;subst xz;exact hqd a p e ha'
   ·rw [if_neg e2] at xz;exact h.ap.rows a b p p' ha' xz hab
 ·rcases Bp ab with rfl|ab
  ·exact ho
  ·exact h.okr r ab
theorem RTab.setCost (h:RTab S I t vars m c) {q:Nat × Nat} {k':List Q} (hl:k'.length=t.cost.length) (ho:okL WW.qF k') (hq:q=(I.ic,I.ec)\/OutR I q.1) (he:entAt S q.1 q.2=some (flat ceW k')) :
  RTab (put S I.it ⟨I.et,[.sref I.ir I.er 0 t.rows.length 1,.sref I.ib I.eb 0 t.rows.length 1,.sref q.1 q.2 0 t.cost.length 4,.frz (vars.map strC) .unk,.frz (t.flip.map Dw) c,intA m]⟩) { I with ic:=q.1,ec:=q.2 } { t with cost:=k' } vars m c:=by
 obtain ⟨h1,h2,h3,h4,h5⟩:=h.lt;have zl:q.1≠I.it/\I.ir≠q.1/\q.1≠I.ib/\∀ p ∈ I.ids,p.1≠q.1:=by
  rcases hq with rfl|hq
  ·exact ⟨h.ap.tc.symm,h.ap.rc,h.ap.cb,fun p hp=>(h.ap.row p hp).2.2.1⟩
  ·exact ⟨hq.1,hq.2.1.symm,hq.2.2.2.1,fun p hp=>(hq.2.2.2.2 p hp).symm⟩
 refine ⟨?_,h.nids,?_,fun j p r hp hr=>?_,fun r hr=>by rw [hl]; exact h.rowW r hr,?_,?_,h.nb,⟨h.ap.tr,zl.1.symm,h.ap.tb,zl.2.1,h.ap.rb,zl.2.2.1,fun p hp=>?_,h.ap.rows⟩,h.okr,ho,by rw [hl]; exact h.bigW,h.bigM,h.posM,by rw [hl]; exact h.posW⟩
 ·rw [Ai h1,hl]
 ·rw [Ah h.ap.tr,hl]; exact h.rowsE
 ·rw [Ah (h.ap.row p (Am hp)).1.symm]; exact h.rowE j p r hp hr
 ·rw [Ah zl.1.symm]; exact he
 ·rw [Ah h.ap.tb]; exact h.basisE
 ·have:=h.ap.row p hp;exact ⟨this.1,this.2.1,zl.2.2.2 p hp,this.2.2.2⟩
theorem RTab.setBasis (h:RTab S I t vars m c) {i b:Nat} : RTab (put S I.ib ⟨I.eb,(put t.basis i b).map intA⟩) I { t with basis:=put t.basis i b } vars m c:=by
 obtain ⟨h1,h2,h3,h4,h5⟩:=h.lt;refine ⟨?_,h.nids,?_,fun j p r hp hr=>?_,h.rowW,?_,Ai h4,by simp only [Aj]; exact h.nb,h.ap,h.okr,h.okc,h.bigW,h.bigM,h.posM,h.posW⟩
 ·rw [Ah h.ap.tb.symm]; exact h.top
 ·rw [Ah h.ap.rb.symm]; exact h.rowsE
 ·rw [Ah (h.ap.row p (Am hp)).2.2.2.symm]; exact h.rowE j p r hp hr
 ·rw [Ah h.ap.cb.symm]; exact h.costE
end
end
section
open Go
end
section
open Go
end
section
open Go
end
section
open Go
end
section
open Go
def OwnL (SS:List Ent) (id e:Nat) (l:List Q):Prop:=if l=[] then SS.length=id else SS.length=id+1/\entAt SS id e=some (flat ceW l)
def Aeg (S:List Ent) (id n:Nat) (l:List Q) (cs:List AV):List Ent:=if l=[] then S++[⟨n,cs⟩] else put S id ⟨n,cs⟩
section
variable {P:Program} {t:TypeId} {S:List Ent} {id e n:Nat} {l zs:List Q} {cs:List AV} {c:Cap}
theorem OwnL.put (hO:OwnL S id e l) (hz:zs≠[]):OwnL (Aeg S id n l (flat ceW (l++zs))) id n (l++zs):=by
 unfold OwnL Aeg at *;rw [if_neg (show l++zs≠[] by simp [hz])];by_cases hn:l=[]
 ·rw [if_pos hn] at hO ⊢;subst hO;exact ⟨by simp,Bz⟩
 ·rw [if_neg hn] at hO ⊢;exact ⟨by rw [Ao]; exact hO.1,Ai aA⟩
theorem OwnL.le (hO:OwnL S id e l):id<=S.length:=by unfold OwnL at hO; split at hO <;> omega
theorem OwnL.old (hO:OwnL S id e l) {j:Nat} (hj:j<id):nth (Aeg S id n l cs) j=nth S j:=by
 have:=hO.le;unfold Aeg; split
 ·exact Bo aA
 ·exact Ad aA
end
section
variable (S:List Ent) (tk:List Nat) (k:Nat)
structure LineC (S:List Ent) (tk:List Nat) (it et:Nat) (vars:List ByteArray) (m:Nat) (fl:List Bool) (cc:Cap) (i:Nat) (r:RowT):Prop where
 tw:it<S.length
 hcap:Bd tk cc 1=true
 hfl:fl.length<=1000000
 hi:i<m
 hv:vars.length<=100000
 hm:m<=100000
 hcl:r.1.length<=1048576
 hc:∀ c ∈ r.1,inB c.2=true
 hn:inB r.2.1=true
end
def shd (id e:Nat):Nat->AV
 | 0=>.frz [] .nilc
 | k+1=>.sref id e 0 (k+1) 1
structure PTab (S:List Ent) (I:TI) (R:List (List Q)) (B:List Nat) (F:List Bool) (vars:List ByteArray) (m W:Nat) (cc:Cap) (x:AV):Prop where
 top:entAt S I.it I.et=some [shd I.ir I.er R.length,shd I.ib I.eb B.length,x,.frz (vars.map strC) .unk,.frz (F.map Dw) cc,.prim (.int .i64 (m:Int))]
 nids:I.ids.length=R.length
 nb:B.length=R.length
 rowsE:R≠[]->entAt S I.ir I.er=some (I.ids.map (fo W 4))
 basisE:R≠[]->entAt S I.ib I.eb=some (B.map intA)
 rowE:∀ i p r,nth I.ids i=some p->nth R i=some r->entAt S p.1 p.2=some (flat ceW r)
 rowW:∀ r ∈ R,r.length=W
 okr:∀ r ∈ R,okL WW.qF r
 tr:I.it≠I.ir
 tb:I.it≠I.ib
 rb:I.ir≠I.ib
 row:∀ p ∈ I.ids,p.1≠I.it/\p.1≠I.ir/\p.1≠I.ib
 lt:I.it<S.length/\∀ p ∈ I.ids,p.1<S.length
 rows:∀ i j p q,nth I.ids i=some p->nth I.ids j=some q->i≠j->p.1≠q.1
theorem Tk {α:Type} {l:List α} {x y:α} {i:Nat} (h:nth (l++[x]) i=some y):nth l i=some y\/i=l.length/\y=x:=by
 rw [Ae] at h ⊢;by_cases hi:i<l.length
 ·rw [Ct hi] at h; exact .inl h
 ·have:=(Fu.1 h).1;simp at this;have e:i=l.length:=aA
  rw [e,C6 (Cc _),I4] at h;simp at h; exact .inr ⟨e,h.symm⟩
theorem PTab.add {S S':List Ent} {I:TI} {R:List (List Q)} {B:List Nat} {F:List Bool} {vars:List ByteArray} {m W:Nat} {cc cc':Cap} {x:AV} (h:PTab S I R B F vars m W cc x) {er eb id ep b:Nat} {f:Bool} {row:List Q}
  (ht:entAt S' I.it I.et=some [.sref I.ir er 0 (R.length+1) 1,.sref I.ib eb 0 (R.length+1) 1,x,.frz (vars.map strC) .unk,.frz ((F++[f]).map Dw) cc',.prim (.int .i64 (m:Int))])
  (hr:entAt S' I.ir er=some ((I.ids++[(id,ep)]).map (fo W 4))) (hb:entAt S' I.ib eb=some ((B++[b]).map intA)) (bo:entAt S' id ep=some (flat ceW row)) (hW:row.length=W) (ho:okL WW.qF row) (ek:∀ p ∈ I.ids,nth S' p.1=nth S p.1) (hlen:S.length<=S'.length)
  (hid:id≠I.it/\id≠I.ir/\id≠I.ib) (gy:S.length<=id) (dm:id<S'.length) :
  PTab S' { I with er:=er,eb:=eb,ids:=I.ids++[(id,ep)] } (R++[row]) (B++[b]) (F++[f]) vars m W cc' x:=by
 have hl1:=h.lt;refine ⟨?_,by simp [h.nids],by simp [h.nb],fun _=>hr,fun _=>hb,fun i p r hp hr=>?_,fun r hr=>?_,fun r hr=>?_,h.tr,h.tb,h.rb,fun p hp=>?_,⟨by show I.it<_; omega,fun p hp=>?_⟩,fun i j p q hp hq hij=>?_⟩
 ·simp only [Cs,S6,h.nb]; exact ht
 ·rcases Tk hp with hp|⟨e1,rfl⟩
  ·have hi:i<R.length:=by rw [<- h.nids]; have:=Bh hp; exact this
   rcases Tk hr with hr|⟨e2,-⟩
   ·rw [Aa (ek p (Am hp))]; exact h.rowE i p r hp hr
   ·omega
  ·rcases Tk hr with hr|⟨e2,rfl⟩
   ·have:=Bh hr; rw [<- h.nids] at this; omega
   ·exact bo
 ·rcases C4.1 hr with hr|hr
  ·exact h.rowW r hr
  ·rw [He.1 hr]; exact hW
 ·rcases C4.1 hr with hr|hr
  ·exact h.okr r hr
  ·rw [He.1 hr]; exact ho
 ·rcases C4.1 hp with hp|hp
  ·exact h.row p hp
  ·rw [He.1 hp]; exact hid
 ·rcases C4.1 hp with hp|hp
  ·have:=hl1.2 p hp; omega
  ·rw [He.1 hp]; exact dm
 ·rcases Tk hp with hp|⟨e1,rfl⟩ <;> rcases Tk hq with hq|⟨e2,rfl⟩
  ·exact h.rows i j p q hp hq hij
  ·have:=hl1.2 p (Am hp); show p.1≠id; omega
  ·have:=hl1.2 q (Am hq); show id≠q.1; omega
  ·omega
def qv (a:Q):Rat:=((a.1:Int):Rat) / ((a.2:Int):Rat)
theorem Gv {d:Int} (h:d≠0):((d:Int):Rat)≠0:=fun e=>h (iH.mp (e.trans rfl))
theorem Asy {a:Q} {n d:Int} (ha:a.2≠0) (hd:d≠0) (h:a.1*d=n*a.2):qv a=((n:Int):Rat) / ((d:Int):Rat):=by
 have h1:=congrArg (fun z:Int=>(z:Rat)) h;simp only [Em] at h1;have h2:=Gv ha;have h3:=Gv hd;unfold qv;grind
theorem As0 {a:Q} (h:0<a.2):qv a<0↔a.1<0:=by
 unfold qv;rw [Rat.div_lt_iff (fZ.2 h),Rat.zero_mul,Rat.intCast_neg_iff]
theorem As1 {a:Q} (h:0<a.2):0<qv a↔0<a.1:=by
 unfold qv;rw [Rat.lt_div_iff (fZ.2 h),Rat.zero_mul,fZ]
theorem Acl {a:Q} (h:0<a.2):sgn a<0↔qv a<0:=by
 rw [As0 h]; unfold sgn; split
 ·omega
 ·split <;> omega
theorem T9 {a:Q} (h:0<a.2):0<sgn a↔0<qv a:=by
 rw [As1 h]; unfold sgn; split
 ·omega
 ·split <;> omega
theorem N8 {a:Q} (h:0<a.2):sgn a=0↔qv a=0:=by
 have h1:=Acl h;have h2:=T9 h;constructor
 ·intro h0;have a1:¬ qv a<0:=fun h'=>by have:=h1.2 h'; omega
  have a2:¬ 0<qv a:=fun h'=>by have:=h2.2 h'; omega
  grind
 ·intro h0;have a1:¬ sgn a<0:=fun h'=>by have:=h1.1 h'; grind
  have a2:¬ 0<sgn a:=fun h'=>by have:=h2.1 h'; grind
  omega
theorem Agj:qv q0=0:=by unfold qv q0; grind
structure Fld.Exact (F:Fld) (G:Q->Prop):Prop where
 pos:∀ a,G a->0<a.2
 zero:G q0
 whole:∀ n,i64 n->(F.whole n).2=false->G (F.whole n).1/\qv (F.whole n).1=((n:Int):Rat)
 minus:∀ a b,G a->G b->(F.minus a b).2=false->G (F.minus a b).1/\qv (F.minus a b).1=qv a - qv b
 times:∀ a b,G a->G b->(F.times a b).2=false->G (F.times a b).1/\qv (F.times a b).1=qv a*qv b
 over:∀ a b,G a->G b->qv b≠0->(F.over a b).2=false->G (F.over a b).1/\qv (F.over a b).1=qv a / qv b
structure Fld.Total (F:Fld) (G:Q->Prop) (fit:Rat->Prop):Prop where
 whole:∀ n,i64 n->(F.whole n).2=false
 minus:∀ a b,G a->G b->fit (qv a - qv b)->(F.minus a b).2=false
 times:∀ a b,G a->G b->fit (qv a*qv b)->(F.times a b).2=false
 over:∀ a b,G a->G b->qv b≠0->fit (qv a / qv b)->(F.over a b).2=false
theorem Asz {n d:Int} (hd:d≠0):qv (lowN n d,lowD n d)=((n:Int):Rat) / ((d:Int):Rat):=Asy (a:=(lowN n d,lowD n d)) (by have:=Nr (n:=n) hd; simp only; omega) hd (K6 hd)
theorem Xq {n d:Int} (hd:d≠0) (h:(qn n d).2=false):okS (qn n d).1/\qv (qn n d).1=((n:Int):Rat) / ((d:Int):Rat):=by
 refine ⟨Ano n d,?_⟩;unfold qn at h ⊢;split
 ·rename_i hb; rw [if_pos hb] at h; simp at h
 ·exact Asz hd
theorem Ya {n d:Int} (h:(wn n d).2=false):Jd (wn n d).1.1 (wn n d).1.2/\qv (wn n d).1=((n:Int):Rat) / ((d:Int):Rat):=by
 have hf:Gi n d=true:=by simpa [wn] using h
 have g:=Aeu hf;exact ⟨g,Asy (a:=(resN n d,resD n d)) (by have:=g.pos; simp only; omega) (Abr hf) (Aks hf)⟩
def Ww (x:Rat):Prop:=∃ n d:Int,d≠0/\x=((n:Int):Rat) / ((d:Int):Rat)/\n.natAbs<10000 ^ 200/\d.natAbs<10000 ^ 200
theorem Aox {z:Int} (h:z.natAbs<10000 ^ 200):okZ z=true:=by
 have:=Bt.2 h;simp only [okZ,Ir,decide_eq_false_iff_not];omega
theorem Yb {n d:Int} (hd:d≠0) (h:Ww (((n:Int):Rat) / ((d:Int):Rat))):(wn n d).2=false:=by
 obtain ⟨a,b,hb,he,pp,hb1⟩:=h;have e:n*b=a*d:=by
  have h2:=Gv hd;have h3:=Gv hb;have h4:((n*b:Int):Rat)=((a*d:Int):Rat):=by
   rw [Em,Em];grind
  exact iH.mp h4
 have hf:=(Ap7 hd hb e).1;have hg:Gi a b=true:=by
  unfold Gi;have l1:(lowN a b).natAbs<10000 ^ 200:=by rw [Th]; exact I5 (Se _ _) pp
  have l2:(lowD a b).natAbs<10000 ^ 200:=I5 (Se _ _) hb1;rw [Aox l1,Aox l2];simp [hb]
 unfold wn;rw [hf,hg]; rfl
theorem P7 {a b c d:Rat} (hb:b≠0) (hd:d≠0):(a*d - c*b) / (b*d)=a / b - c / d:=aM
theorem P6 {a b c d:Rat} (hb:b≠0) (hd:d≠0):(a*d+-c*b) / (b*d)=a / b - c / d:=aM
theorem Jb {a b c d:Rat} (hb:b≠0) (hd:d≠0):(a*c) / (b*d)=a / b*(c / d):=aM
theorem Lh {a b c d:Rat} (hb:b≠0) (hd:d≠0) (hc:c≠0):(a*d) / (b*c)=a / b / (c / d):=aM
theorem Tv {b:Q} (h:qv b≠0):b.1≠0:=fun h0=>h (by unfold qv; rw [h0]; show (0:Rat) / _=0; grind)
theorem Aep:QQ.qF.Exact okS:=by
 refine ⟨fun a h=>h.2.2.1,⟨aH,aH,aH,aH⟩,fun n _ h=>?_,fun a b ha hb h=>?_,fun a b ha hb h=>?_,fun a b ha hb h0 h=>?_⟩
 ·simp only [QQ.qF] at h ⊢;split
  ·rename_i hb; rw [if_pos hb] at h; simp at h
  ·refine ⟨⟨?_,?_,?_,?_⟩,?_⟩
   ·simp only; omega
   ·simp only; omega
   ·simp only; omega
   ·simp only; omega
   ·unfold qv;exact Ya3i
 ·have h1:=ha.2.2.1;have h2:=hb.2.2.1;have e:=Xq (Iw aA aA) h;refine ⟨e.1,e.2.trans ?_⟩;rw [Rat.intCast_sub,Em,Em,Em];exact P7 (Gv aA) (Gv aA)
 ·have h1:=ha.2.2.1;have h2:=hb.2.2.1;have e:=Xq (Iw aA aA) h;exact Ya26
 ·have h1:=ha.2.2.1;have h2:=hb.2.2.1;have h3:=Tv h0;simp only [QQ.qF] at h ⊢;rw [if_neg h3] at h ⊢;have e:=Xq (Iw aA h3) h;exact Ya1k
def gW (a:Q):Prop:=Jd a.1 a.2
theorem Qg {a:Q} (h:gW a):qz a=a:=by
 have:=h.pos;unfold qz; rw [if_neg aA]
theorem Am0 {n:Int} (h:i64 n):gW (n,1):=by
 have:=WW.Dh.whole n h;rcases this with h1|h1
 ·exact h1
 ·simp [WW.qF] at h1
theorem Q0:WW.qF.Exact gW:=by
 refine ⟨fun a h=>h.pos,Zz,fun n hn h=>⟨Am0 hn,?_⟩,fun a b ha hb h=>?_,fun a b ha hb h=>?_,fun a b ha hb h0 h=>?_⟩
 ·simp only [WW.qF]; unfold qv;exact Ya3i
 ·have h1:=ha.pos;have h2:=hb.pos;simp only [WW.qF,Qg ha,Qg hb] at h ⊢;have e:=Ya h;refine ⟨e.1,e.2.trans ?_⟩;rw [Sy,Em,Em,Em,Oz];exact P6 (Gv aA) (Gv aA)
 ·have h1:=ha.pos;have h2:=hb.pos;simp only [WW.qF,Qg ha,Qg hb] at h ⊢;have e:=Ya h;exact Ya26
 ·have h1:=ha.pos;have h2:=hb.pos;have h3:=Tv h0;simp only [WW.qF,Qg ha,Qg hb] at h ⊢;have e:=Ya h;exact Ya1k
theorem Afc:WW.qF.Total gW Ww:=by
 refine ⟨fun n _=>rfl,fun a b ha hb h=>?_,fun a b ha hb h=>?_,fun a b ha hb h0 h=>?_⟩
 ·have h1:=ha.pos;have h2:=hb.pos;simp only [WW.qF,Qg ha,Qg hb];refine Yb (Iw aA aA) ?_;rw [Sy,Em,Em,Em,Oz,P6 (Gv aA) (Gv aA)];exact h
 ·have h1:=ha.pos;have h2:=hb.pos;simp only [WW.qF,Qg ha,Qg hb];refine Yb (Iw aA aA) ?_;rw [Em,Em,Jb (Gv aA) (Gv aA)];exact h
 ·have h1:=ha.pos;have h2:=hb.pos;have h3:=Tv h0;simp only [WW.qF,Qg ha,Qg hb];refine Yb (Iw aA h3) ?_;rw [Em,Em,Lh (Gv aA) (Gv aA) (Gv h3)];exact h
theorem Abu {l:List ByteArray} {s:ByteArray} (h:s ∈ l):nth l (idxV l s)=some s:=by
 obtain ⟨j,h1,h2,h3⟩:=Ru (i:=0) h;unfold idxV;rw [h2];have:((0+j:Nat):Int).toNat=j:=aA
 rw [this]; exact h3
def tabV (t:Tb):Simp.Tab:=⟨fun i j=>qv (at_ q0 (B7 t i) j),fun j=>qv (at_ q0 t.cost j),fun i=>at_ 0 t.basis i⟩
structure TOk (G:Q->Prop) (m N:Nat) (t:Tb):Prop where
 rows:t.rows.length=m
 basis:t.basis.length=m
 cost:t.cost.length=N+1
 rowW:∀ r ∈ t.rows,r.length=N+1
 okr:∀ r ∈ t.rows,∀ q ∈ r,G q
 okc:∀ q ∈ t.cost,G q
section
variable {α:Type} {d x:α} {l:List α} {k:Nat}
theorem Yx:at_ d [] k=d:=rfl
theorem Yw (h:k<l.length):nth l k=some (at_ d l k):=by
 obtain ⟨y,hy⟩:=Af h;unfold at_; rw [hy]; rfl
theorem Hr (h:k<l.length):at_ d l k ∈ l:=Am (Yw h)
theorem Ahz (h:l.length<=k):at_ d l k=d:=by
 unfold at_; rw [Ae,C9 h]; rfl
theorem Pz (h:k<l.length) {j:Nat} : at_ d (put l k x) j=if j=k then x else at_ d l j:=by
 unfold at_;by_cases e:j=k
 ·subst e; rw [if_pos rfl,Dq h]; rfl
 ·rw [if_neg e,Ad (Oo e)]
end
section
variable {F:Fld} {G:Q->Prop} {fit:Rat->Prop} {m N:Nat}
theorem Abl (hE:F.Exact G) {b:Q} (hb:G b) (h0:qv b≠0):∀ {l:List Q},(∀ q ∈ l,G q)->(divL F b l).2=false->(∀ q ∈ (divL F b l).1,G q)/\∀ j,qv (at_ q0 (divL F b l).1 j)=qv (at_ q0 l j) / qv b
 | [],_,_=>⟨fun q h=>aV,fun j=>by simp only [divL,Yx,Agj]; grind⟩
 | x :: l,hl,hf=>by
  have hx:(dvS F b x).2=false/\(divL F b l).2=false:=by simpa [divL] using hf
  have ih:=Abl hE hb h0 (fun q h=>hl q (Cz _ h)) hx.2;have gx:=hl x (C7 ..);have hs:G (dvS F b x).1/\qv (dvS F b x).1=qv x / qv b:=by
   have h1:=hx.1;unfold dvS at h1 ⊢;split
   ·rename_i h;exact ⟨gx,by rw [(N8 (hE.pos x gx)).1 h]; grind⟩
   ·rename_i h;rw [if_neg h] at h1;exact hE.over x b gx hb h0 h1
  exact Ya3n
theorem Adl (hT:F.Total G fit) {b:Q} (hb:G b) (h0:qv b≠0):∀ {l:List Q},(∀ q ∈ l,G q)->(∀ j,j<l.length->fit (qv (at_ q0 l j) / qv b))->(divL F b l).2=false
 | [],_,_=>rfl
 | x :: l,hl,hf=>by
  have ih:=Adl hT hb h0 (l:=l) (fun q h=>hl q (Cz _ h)) fun j hj=>hf (j+1) aW;have gx:=hl x (C7 ..);have hs:(dvS F b x).2=false:=by
   unfold dvS;split
   ·rfl
   ·exact hT.over x b gx hb h0 (hf 0 (by simp))
  show ((dvS F b x).2 || (divL F b l).2)=false;rw [hs,ih]; rfl
theorem Abm {b:Q} : ∀ {l:List Q},(divL F b l).1.length=l.length
 | []=>rfl
 | x :: l=>by simp only [divL,Ck,Abm]
theorem An3 (hE:F.Exact G) {b a r:Q} (hb:G b) (ha:G a) (hr:G r) (hf:(Jr F b a r).2=false):G (Jr F b a r).1/\qv (Jr F b a r).1=qv a - qv b*qv r:=by
 unfold Jr at hf ⊢;split
 ·rename_i h;exact ⟨ha,by rw [(N8 (hE.pos r hr)).1 h]; grind⟩
 ·rename_i h;rw [if_neg h] at hf;simp only [Fe] at hf;have h1:=hE.times b r hb hr hf.1;have h2:=hE.minus a _ ha h1.1 hf.2;exact ⟨h2.1,by rw [h2.2,h1.2]⟩
theorem Aea (hE:F.Exact G) {b:Q} (hb:G b):∀ {l r:List Q},l.length=r.length->(∀ q ∈ l,G q)->(∀ q ∈ r,G q)->(lessL F b l r).2=false->(∀ q ∈ (lessL F b l r).1,G q)/\∀ j,qv (at_ q0 (lessL F b l r).1 j)=qv (at_ q0 l j) - qv b*qv (at_ q0 r j)
 | [],[],_,_,_,_=>⟨fun q h=>aV,fun j=>by simp only [lessL,Yx,Agj]; grind⟩
 | [],_ :: _,h,_,_,_=>aN
 | _ :: _,[],h,_,_,_=>aN
 | a :: l,r :: rs,h,hl,hr,hf=>by
  have hx:(Jr F b a r).2=false/\(lessL F b l rs).2=false:=by simpa [lessL] using hf
  have ih:=Aea hE hb aJ (fun q h=>hl q (Cz _ h)) (fun q h=>hr q (Cz _ h)) hx.2;have hs:=An3 hE hb (hl a (C7 ..)) (hr r (C7 ..)) hx.1;exact Ya3n
theorem Z7 (hE:F.Exact G) (hT:F.Total G fit) {b:Q} (hb:G b):∀ {l r:List Q},l.length=r.length->(∀ q ∈ l,G q)->(∀ q ∈ r,G q)->(∀ j,j<r.length->fit (qv b*qv (at_ q0 r j))/\fit (qv (at_ q0 l j) - qv b*qv (at_ q0 r j)))->(lessL F b l r).2=false
 | [],[],_,_,_,_=>rfl
 | [],_ :: _,h,_,_,_=>aN
 | _ :: _,[],h,_,_,_=>aN
 | a :: l,r :: rs,h,hl,hr,hf=>by
  have ih:=Z7 hE hT hb (l:=l) (r:=rs) aJ (fun q h=>hl q (Cz _ h)) (fun q h=>hr q (Cz _ h)) fun j hj=>hf (j+1) aW;have ga:=hl a (C7 ..);have gr:=hr r (C7 ..);have h0:=hf 0 (by simp);have hs:(Jr F b a r).2=false:=by
   unfold Jr;split
   ·rfl
   ·have t1:=hT.times b r hb gr h0.1;have t2:=hE.times b r hb gr t1;have t3:=hT.minus a _ ga t2.1 (by rw [t2.2]; exact h0.2);simp only [t1,t3]; rfl
  show ((Jr F b a r).2 || (lessL F b l rs).2)=false;rw [hs,ih]; rfl
theorem Aeb (hE:F.Exact G) {a r:List Q} {c:Nat} (hc:c<a.length) (hl:a.length=r.length) (ha:∀ q ∈ a,G q) (hr:∀ q ∈ r,G q) (hf:(lessT F a r c).2=false):(∀ q ∈ (lessT F a r c).1,G q)/\∀ j,qv (at_ q0 (lessT F a r c).1 j)=qv (at_ q0 a j) - qv (at_ q0 a c)*qv (at_ q0 r j):=by
 have hb:=ha _ (Hr (d:=q0) hc);unfold lessT at hf ⊢;rw [Yw (d:=q0) hc] at hf ⊢;simp only at hf ⊢;split
 ·rename_i h;exact ⟨ha,fun j=>by rw [(N8 (hE.pos _ hb)).1 h]; grind⟩
 ·rename_i h;rw [if_neg h] at hf;exact Aea hE hb hl ha hr hf
theorem Z8 (hE:F.Exact G) (hT:F.Total G fit) {a r:List Q} {c:Nat} (hc:c<a.length) (hl:a.length=r.length) (ha:∀ q ∈ a,G q) (hr:∀ q ∈ r,G q) (hf:∀ j,j<r.length->fit (qv (at_ q0 a c)*qv (at_ q0 r j))/\fit (qv (at_ q0 a j) - qv (at_ q0 a c)*qv (at_ q0 r j))):(lessT F a r c).2=false:=by
 have hb:=ha _ (Hr (d:=q0) hc);unfold lessT;rw [Yw (d:=q0) hc];simp only;split
 ·rfl
 ·exact Z7 hE hT hb hl ha hr hf
theorem Tg (hE:F.Exact G) {row:List Q} {c i W:Nat} (hc:c<W) (hw:row.length=W) (hr:∀ q ∈ row,G q):∀ {l:List (List Q)} {k:Nat},(∀ r ∈ l,r.length=W)->(∀ r ∈ l,∀ q ∈ r,G q)->(lessRows F row c i k l).2=false ->
  (∀ r ∈ (lessRows F row c i k l).1,r.length=W)/\(∀ r ∈ (lessRows F row c i k l).1,∀ q ∈ r,G q)/\∀ n j,n<l.length->qv (at_ q0 (at_ [] (lessRows F row c i k l).1 n) j)=if k+n=i then qv (at_ q0 (at_ [] l n) j) else qv (at_ q0 (at_ [] l n) j) - qv (at_ q0 (at_ [] l n) c)*qv (at_ q0 row j)
 | [],k,_,_,_=>⟨fun r h=>aV,fun r h=>aV,fun n j hn=>by simp at hn⟩
 | r :: l,k,hl,hg,hf=>by
  have hx:(lessK F row c i k r).2=false/\(lessRows F row c i (k+1) l).2=false:=by simpa [lessRows] using hf
  have ih:=Tg hE hc hw hr (fun r h=>hl r (Cz _ h)) (fun r h=>hg r (Cz _ h)) hx.2;have hlr:=hl r (C7 ..);have hgr:=hg r (C7 ..);have hs:(lessK F row c i k r).1.length=W/\(∀ q ∈ (lessK F row c i k r).1,G q)/\∀ j,qv (at_ q0 (lessK F row c i k r).1 j)=if k=i then qv (at_ q0 r j) else qv (at_ q0 r j) - qv (at_ q0 r c)*qv (at_ q0 row j):=by
   have h1:=hx.1;unfold lessK at h1 ⊢;by_cases e:k=i
   ·simp only [if_pos e]; exact ⟨hlr,hgr,fun j=>trivial⟩
   ·simp only [if_neg e] at h1 ⊢;have h2:=Aeb hE aA (by rw [hlr,hw]) hgr hr h1;exact ⟨by rw [Xb]; exact hlr,h2.1,h2.2⟩
  refine ⟨fun q h=>?_,fun q h=>?_,fun n j hn=>?_⟩
  ·exact Ya0e
  ·rcases Cn.1 h with rfl|h
   ·exact hs.2.1
   ·exact ih.2.1 q h
  ·cases n with
   | zero=>exact hs.2.2 j
   | succ n =>
    have:=ih.2.2 n j dM;rw [show k+1+n=k+(n+1) by omega] at this;exact this
theorem P4 (hE:F.Exact G) (hT:F.Total G fit) {row:List Q} {c i W:Nat} (hc:c<W) (hw:row.length=W) (hr:∀ q ∈ row,G q):∀ {l:List (List Q)} {k:Nat},(∀ r ∈ l,r.length=W)->(∀ r ∈ l,∀ q ∈ r,G q) ->
  (∀ n j,n<l.length->k+n≠i->j<W->fit (qv (at_ q0 (at_ [] l n) c)*qv (at_ q0 row j))/\fit (qv (at_ q0 (at_ [] l n) j) - qv (at_ q0 (at_ [] l n) c)*qv (at_ q0 row j)))->(lessRows F row c i k l).2=false
 | [],k,_,_,_=>rfl
 | r :: l,k,hl,hg,hf=>by
  have ih:=P4 hE hT hc hw hr (l:=l) (k:=k+1) (i:=i) (fun r h=>hl r (Cz _ h)) (fun r h=>hg r (Cz _ h)) fun n j hn hk hj=>hf (n+1) j dM aA hj;have hlr:=hl r (C7 ..);have hgr:=hg r (C7 ..);have hs:(lessK F row c i k r).2=false:=by
   unfold lessK;by_cases e:k=i
   ·rw [if_pos e]
   ·rw [if_neg e];exact Z8 hE hT aA (by rw [hlr,hw]) hgr hr fun j hj=>hf 0 j (by simp) aA aA
  show ((lessK F row c i k r).2 || (lessRows F row c i (k+1) l).2)=false;rw [hs,ih]; rfl
structure Ac2 (fit:Rat->Prop) (m N:Nat) (t:Simp.Tab) (r s:Nat):Prop where
 row:∀ j,j<N+1->fit (t.T r j / t.T r s)
 mul:∀ i j,i<m->j<N+1->fit (t.T i s*(t.T r j / t.T r s))
 sub:∀ i j,i<m->j<N+1->i≠r->fit (t.T i j - t.T i s*(t.T r j / t.T r s))
 cmul:∀ j,j<N+1->fit (t.c s*(t.T r j / t.T r s))
 csub:∀ j,j<N+1->fit (t.c j - t.c s*(t.T r j / t.T r s))
theorem N5 {t:Tb} (h:TOk G m N t) {i:Nat} (hi:i<m):B7 t i ∈ t.rows:=Hr Za47
theorem Age (hE:F.Exact G) (hT:F.Total G fit) {t:Tb} (h:TOk G m N t) {i c:Nat} (hi:i<m) (hc:c<N+1) (h0:(tabV t).T i c≠0) (hfl:t.fl=false) (hp:Ac2 fit m N (tabV t) i c):(D9 F t i c).fl=false:=by
 have cz:=N5 h hi;have hb:=h.okr _ cz _ (Hr (d:=q0) (k:=c) (by rw [h.rowW _ cz]; exact hc));have d1:=Adl hT hb h0 (h.okr _ cz) fun j hj=>hp.row j (by rw [h.rowW _ cz] at hj; exact hj);have d2:=Abl hE hb h0 (h.okr _ cz) d1;have dl:=Abm (F:=F) (b:=at_ q0 (B7 t i) c) (l:=B7 t i);rw [h.rowW _ cz] at dl;have r1:(lessRows F (divL F (at_ q0 (B7 t i) c) (B7 t i)).1 c i 0 (put t.rows i (divL F (at_ q0 (B7 t i) c) (B7 t i)).1)).2=false:=by
  refine P4 hE hT (W:=N+1) hc dl d2.1 (fun r hr=>?_) (fun r hr=>?_) fun n j hn hk hj=>?_
  ·rcases Jh hr with rfl|hr
   ·exact dl
   ·exact h.rowW r hr
  ·rcases Jh hr with rfl|hr
   ·exact d2.1
   ·exact h.okr r hr
  ·rw [Aj,h.rows] at hn;rw [Pz Za47,if_neg aA,d2.2];exact ⟨hp.mul n j hn hj,hp.sub n j hn hj aA⟩
 have k1:(lessT F t.cost (divL F (at_ q0 (B7 t i) c) (B7 t i)).1 c).2=false:=by
  refine Z8 hE hT (by rw [h.cost]; exact hc) (by rw [h.cost,dl]) h.okc d2.1 fun j hj=>?_;rw [dl] at hj;rw [d2.2];exact ⟨hp.cmul j hj,hp.csub j hj⟩
 show (((t.fl || _) || _) || _)=false;rw [hfl,d1,r1,k1]; rfl
theorem Akh (hE:F.Exact G) {t:Tb} (h:TOk G m N t) {i c:Nat} (hi:i<m) (hc:c<N+1) (h0:(tabV t).T i c≠0) (hfl:(D9 F t i c).fl=false):TOk G m N (D9 F t i c)/\tabV (D9 F t i c)=Simp.piv (tabV t) i c:=by
 have cz:=N5 h hi;have hb:=h.okr _ cz _ (Hr (d:=q0) (k:=c) (by rw [h.rowW _ cz]; exact hc));have a1m:(((t.fl || (divL F (at_ q0 (B7 t i) c) (B7 t i)).2) || (lessRows F (divL F (at_ q0 (B7 t i) c) (B7 t i)).1 c i 0 (put t.rows i (divL F (at_ q0 (B7 t i) c) (B7 t i)).1)).2) || (lessT F t.cost (divL F (at_ q0 (B7 t i) c) (B7 t i)).1 c).2)=false:=hfl;simp only [Fe] at a1m;obtain ⟨⟨⟨-,d1⟩,r1⟩,k1⟩:=a1m;have d2:=Abl hE hb h0 (h.okr _ cz) d1;have dl:=Abm (F:=F) (b:=at_ q0 (B7 t i) c) (l:=B7 t i);rw [h.rowW _ cz] at dl;have r2:=Tg hE (W:=N+1) hc dl d2.1 (fun r hr=>by
  rcases Jh hr with rfl|hr
  ·exact dl
  ·exact h.rowW r hr) (fun r hr=>by
  rcases Jh hr with rfl|hr
  ·exact d2.1
  ·exact h.okr r hr) r1
 have k2:=Aeb hE (by rw [h.cost]; exact hc) (by rw [h.cost,dl]) h.okc d2.1 k1;refine ⟨⟨?_,?_,?_,r2.1,r2.2.1,k2.1⟩,?_⟩
 ·show (lessRows _ _ _ _ _ _).1.length=m;rw [J6,Aj]; exact h.rows
 ·show (put _ _ _).length=m;rw [Aj]; exact h.basis
 ·show (lessT _ _ _ _).1.length=N+1;rw [Xb]; exact h.cost
 ·have eT:(tabV (D9 F t i c)).T=(Simp.piv (tabV t) i c).T:=by
   funext i' j;show qv (at_ q0 (at_ [] (lessRows F (divL F (at_ q0 (B7 t i) c) (B7 t i)).1 c i 0 (put t.rows i (divL F (at_ q0 (B7 t i) c) (B7 t i)).1)).1 i') j)=Simp.pivT (tabV t) i c i' j;by_cases aq:i'<m
   ·rw [r2.2.2 i' j (by rw [Aj,h.rows]; exact aq),Pz Za47,d2.2];unfold Simp.pivT;by_cases e:i'=i
    ·subst e;rw [if_pos aA,if_pos rfl,if_pos rfl,d2.2]; rfl
    ·rw [if_neg aA,if_neg e,if_neg e]; rfl
   ·have hn:at_ [] t.rows i'=[]:=Ahz (by rw [h.rows]; omega);have z:∀ j,(tabV t).T i' j=0:=fun j=>by
     show qv (at_ q0 (at_ [] t.rows i') j)=0;rw [hn,Yx,Agj]
    have e2:at_ [] (lessRows F (divL F (at_ q0 (B7 t i) c) (B7 t i)).1 c i 0 (put t.rows i (divL F (at_ q0 (B7 t i) c) (B7 t i)).1)).1 i'=[]:=Ahz (by rw [J6,Aj,h.rows]; omega);rw [e2,Yx,Agj];unfold Simp.pivT;rw [if_neg aA,z,z]; grind
  have eC:(tabV (D9 F t i c)).c=(Simp.piv (tabV t) i c).c:=by
   funext j;show qv (at_ q0 (lessT F t.cost (divL F (at_ q0 (B7 t i) c) (B7 t i)).1 c).1 j)=_;rw [k2.2,d2.2]; rfl
  have eB:(tabV (D9 F t i c)).B=(Simp.piv (tabV t) i c).B:=by
   funext k;show at_ 0 (put t.basis i c) k=if k=i then c else at_ 0 t.basis k
   exact Pz (by rw [h.basis]; exact hi)
  show Simp.Tab.mk _ _ _=Simp.Tab.mk _ _ _;exact congr (congr (congrArg Simp.Tab.mk eT) eC) eB
end
def Kp (G:Q->Prop) (N c:Nat) (T:Simp.Tab) (k:Nat):Option (Nat × Q)->Prop
 | none=>∀ i,i<k->T.T i c<=0
 | some (i,q)=>i<k/\0<T.T i c/\G q/\qv q=T.T i N / T.T i c/\∀ i',i'<k->0<T.T i' c->T.T i N / T.T i c<=T.T i' N / T.T i' c/\(T.T i N / T.T i c=T.T i' N / T.T i' c->T.B i<=T.B i')
structure Qi (fit:Rat->Prop) (m N c:Nat) (T:Simp.Tab):Prop where
 quo:∀ i,i<m->0<T.T i c->fit (T.T i N / T.T i c)
 sub:∀ i k,i<m->k<m->0<T.T i c->0<T.T k c->fit (T.T i N / T.T i c - T.T k N / T.T k c)
def Nn (F:Fld) (basis:List Nat) (c W k:Nat) (r:List Q) (b:Option (Nat × Q)):Option (Nat × Q) × Bool :=
 if sgn (at_ q0 r c)<=0 then (b,false) else
  match b with
  | none=>(some (k,(F.over (at_ q0 r (W - 1)) (at_ q0 r c)).1),(F.over (at_ q0 r (W - 1)) (at_ q0 r c)).2)
  | some (bi,least)=>(if worse basis (sgn (F.minus (F.over (at_ q0 r (W - 1)) (at_ q0 r c)).1 least).1) k bi=true then some (bi,least) else some (k,(F.over (at_ q0 r (W - 1)) (at_ q0 r c)).1),(F.over (at_ q0 r (W - 1)) (at_ q0 r c)).2 || (F.minus (F.over (at_ q0 r (W - 1)) (at_ q0 r c)).1 least).2)
theorem Te {F:Fld} {basis:List Nat} {c W k:Nat} {r:List Q} {l:List (List Q)} {b:Option (Nat × Q)} : Bv F basis c W k (r :: l) b=((Bv F basis c W (k+1) l (Nn F basis c W k r b).1).1,(Nn F basis c W k r b).2 || (Bv F basis c W (k+1) l (Nn F basis c W k r b).1).2):=by
 rw [Bv];unfold Nn;split
 ·simp
 ·cases b with
  | none=>rfl
  | some p=>obtain ⟨bi,least⟩:=p; rfl
section
variable {F:Fld} {G:Q->Prop} {fit:Rat->Prop} {m N L:Nat}
theorem Z6 (hE:F.Exact G) {t:Tb} (h:TOk G m N t) {c k:Nat} (hc:c<N+1) (hk:k<m) {b:Option (Nat × Q)} (hb:Kp G N c (tabV t) k b) (hf:(Nn F t.basis c (N+1) k (B7 t k) b).2=false):Kp G N c (tabV t) (k+1) (Nn F t.basis c (N+1) k (B7 t k) b).1:=by
 have cz:=N5 h hk;have hw:=h.rowW _ cz;have g1:=h.okr _ cz _ (Hr (d:=q0) (k:=c) (by rw [hw]; exact hc));have g2:=h.okr _ cz _ (Hr (d:=q0) (k:=N) (by rw [hw]; omega));have p1:=hE.pos _ g1;have e1:qv (at_ q0 (B7 t k) c)=(tabV t).T k c:=rfl;have e2:qv (at_ q0 (B7 t k) N)=(tabV t).T k N:=rfl;unfold Nn at hf ⊢;rw [iY] at hf ⊢;split
 ·rename_i hs;have hn:(tabV t).T k c<=0:=by
   have:¬ 0<qv (at_ q0 (B7 t k) c):=fun h'=>by have:=(T9 p1).2 h'; omega
   rw [e1] at this; grind
  cases b with
  | none =>
   intro i hi;by_cases e:i=k
   ·subst e; exact hn
   ·exact hb i aA
  | some p =>
   obtain ⟨bi,least⟩:=p;obtain ⟨b1,b2,b3,b4,b5⟩:=hb;refine ⟨aA,b2,b3,b4,fun i' aq hp=>?_⟩;by_cases e:i'=k
   ·subst e; grind
   ·exact b5 i' aA hp
 ·rename_i hs;rw [if_neg hs] at hf;have hp:0<(tabV t).T k c:=by
   rw [<- e1]; exact (T9 p1).1 aA
  have h0:qv (at_ q0 (B7 t k) c)≠0:=by rw [e1]; grind
  cases b with
  | none =>
   simp only at hf ⊢;have hq:=hE.over _ _ g2 g1 h0 hf;refine ⟨aA,hp,hq.1,by rw [hq.2,e1,e2],fun i' aq ed=>?_⟩;by_cases e:i'=k
   ·exact Ya1n
   ·have:=hb i' aA; grind
  | some p =>
   obtain ⟨bi,least⟩:=p;obtain ⟨b1,b2,b3,b4,b5⟩:=hb;simp only [Fe] at hf ⊢;have hq:=hE.over _ _ g2 g1 h0 hf.1;have hd:=hE.minus _ _ hq.1 b3 hf.2;have pd:=hE.pos _ hd.1;have hdv:qv (F.minus (F.over (at_ q0 (B7 t k) N) (at_ q0 (B7 t k) c)).1 least).1=(tabV t).T k N / (tabV t).T k c - (tabV t).T bi N / (tabV t).T bi c:=by rw [hd.2,hq.2,b4,e1,e2]
   have s1:=T9 pd;have s2:=N8 pd;have s3:=Acl pd;rw [hdv] at s1 s2 s3;generalize sgn (F.minus (F.over (at_ q0 (B7 t k) N) (at_ q0 (B7 t k) c)).1 least).1=s at s1 s2 s3 ⊢;have eB:∀ i,at_ 0 t.basis i=(tabV t).B i:=fun _=>rfl;unfold worse;rw [eB,eB];by_cases c1:0<s
   ·have hw1:(decide (0<s) || (s == 0 && decide ((tabV t).B bi<(tabV t).B k)))=true:=by simp [c1]
    rw [if_pos hw1];have:=s1.1 c1;refine ⟨aA,b2,b3,b4,fun i' aq ed=>?_⟩;by_cases e:i'=k
    ·subst e; exact ⟨aM,fun h'=>aM⟩
    ·exact b5 i' aA ed
   ·by_cases c2:s=0
    ·have hz:=s2.1 c2;have lp:(tabV t).T k N / (tabV t).T k c=(tabV t).T bi N / (tabV t).T bi c:=aM
     by_cases c3:(tabV t).B bi<(tabV t).B k
     ·have hw1:(decide (0<s) || (s == 0 && decide ((tabV t).B bi<(tabV t).B k)))=true:=by simp [c2,c3]
      rw [if_pos hw1];refine ⟨aA,b2,b3,b4,fun i' aq ed=>?_⟩;by_cases e:i'=k
      ·subst e; exact ⟨aM,fun _=>aA⟩
      ·exact b5 i' aA ed
     ·have hw1:¬ (decide (0<s) || (s == 0 && decide ((tabV t).B bi<(tabV t).B k)))=true:=by simp [c2,c3]
      rw [if_neg hw1];refine ⟨aA,hp,hq.1,by rw [hq.2,e1,e2],fun i' aq ed=>?_⟩;by_cases e:i'=k
      ·exact Ya1n
      ·have h5:=b5 i' aA ed;refine ⟨by rw [lp]; exact h5.1,fun h'=>?_⟩;have:=h5.2 (by rw [<- lp]; exact h');omega
    ·have hw1:¬ (decide (0<s) || (s == 0 && decide ((tabV t).B bi<(tabV t).B k)))=true:=by simp [c1,c2]
     rw [if_neg hw1];have:=s3.1 aA;refine ⟨aA,hp,hq.1,by rw [hq.2,e1,e2],fun i' aq ed=>?_⟩;by_cases e:i'=k
     ·exact Ya1n
     ·have h5:=b5 i' aA ed;exact ⟨aM,fun h'=>by have:=h5.1; grind⟩
theorem Af0 (hE:F.Exact G) (hT:F.Total G fit) {t:Tb} (h:TOk G m N t) {c k:Nat} (hc:c<N+1) (hk:k<m) (hF:Qi fit m N c (tabV t)) {b:Option (Nat × Q)} (hb:Kp G N c (tabV t) k b):(Nn F t.basis c (N+1) k (B7 t k) b).2=false:=by
 have cz:=N5 h hk;have hw:=h.rowW _ cz;have g1:=h.okr _ cz _ (Hr (d:=q0) (k:=c) (by rw [hw]; exact hc));have g2:=h.okr _ cz _ (Hr (d:=q0) (k:=N) (by rw [hw]; omega));have p1:=hE.pos _ g1;have e1:qv (at_ q0 (B7 t k) c)=(tabV t).T k c:=rfl;have e2:qv (at_ q0 (B7 t k) N)=(tabV t).T k N:=rfl;unfold Nn;rw [iY];split
 ·rfl
 ·rename_i hs;have hp:0<(tabV t).T k c:=by
   rw [<- e1]; exact (T9 p1).1 aA
  have h0:qv (at_ q0 (B7 t k) c)≠0:=by rw [e1]; grind
  have f1:=hT.over _ _ g2 g1 h0 (hF.quo k hk hp);cases b with
  | none=>exact f1
  | some p =>
   obtain ⟨bi,least⟩:=p;obtain ⟨b1,b2,b3,b4,b5⟩:=hb;have hq:=hE.over _ _ g2 g1 h0 f1;have f2:=hT.minus _ _ hq.1 b3 (by rw [hq.2,b4,e1,e2]; exact hF.sub k bi hk aA hp b2);simp only [f1,f2]; rfl
theorem Z5 (hE:F.Exact G) {t:Tb} (h:TOk G m N t) {c:Nat} (hc:c<N+1):∀ {l:List (List Q)} {k:Nat} {b:Option (Nat × Q)},t.rows.drop k=l->k<=m->Kp G N c (tabV t) k b->(Bv F t.basis c (N+1) k l b).2=false->Kp G N c (tabV t) m (Bv F t.basis c (N+1) k l b).1
 | [],k,b,hl,hk,hb,_=>by
  have:t.rows.length<=k:=List.drop_eq_nil_iff.1 hl;rw [h.rows] at this;have e:k=m:=aA
  subst e;exact hb
 | r :: l,k,b,hl,hk,hb,hf=>by
  have pg:k<m:=by
   exact Ya1r
  have hd:=Ay (Yw (d:=[]) (l:=t.rows) (k:=k) (by rw [h.rows]; exact pg));rw [hl] at hd;obtain ⟨hr,hl2⟩:=List.cons.inj hd;have er:r=B7 t k:=hr;rw [Te] at hf ⊢;simp only [Fe] at hf ⊢;rw [er] at hf ⊢;exact Z5 hE h hc hl2.symm pg (Z6 hE h hc pg hb hf.1) hf.2
theorem Vl (hE:F.Exact G) (hT:F.Total G fit) {t:Tb} (h:TOk G m N t) {c:Nat} (hc:c<N+1) (hF:Qi fit m N c (tabV t)):∀ {l:List (List Q)} {k:Nat} {b:Option (Nat × Q)},t.rows.drop k=l->k<=m->Kp G N c (tabV t) k b->(Bv F t.basis c (N+1) k l b).2=false
 | [],k,b,hl,hk,hb=>rfl
 | r :: l,k,b,hl,hk,hb=>by
  have pg:k<m:=by
   exact Ya1r
  have hd:=Ay (Yw (d:=[]) (l:=t.rows) (k:=k) (by rw [h.rows]; exact pg));rw [hl] at hd;obtain ⟨hr,hl2⟩:=List.cons.inj hd;have er:r=B7 t k:=hr;have s1:=Af0 hE hT h hc pg hF hb;rw [Te,er];simp only [Fe];exact ⟨s1,Vl hE hT h hc hF hl2.symm pg (Z6 hE h hc pg hb s1)⟩
theorem Aik (hE:F.Exact G) {cost:List Q} (hg:∀ q ∈ cost,G q):∀ {n k:Nat},k+n<=cost.length->match colF cost n k with
  | none=>∀ j,k<=j->j<k+n->0<=qv (at_ q0 cost j)
  | some c=>k<=c/\c<k+n/\qv (at_ q0 cost c)<0/\∀ j,k<=j->j<c->0<=qv (at_ q0 cost j)
 | 0,k,_=>fun j h1 h2=>aA
 | n+1,k,hn=>by
  have gk:=hg _ (Hr (d:=q0) (k:=k) (l:=cost) aA);have hs:=Acl (hE.pos _ gk);unfold colF;by_cases c1:sgn (at_ q0 cost k)<0
  ·rw [if_pos c1];exact ⟨Cc _,aA,hs.1 c1,fun j h1 h2=>aA⟩
  ·rw [if_neg c1];have hk:0<=qv (at_ q0 cost k):=by
    have:¬ qv (at_ q0 cost k)<0:=fun h'=>c1 (hs.2 h');grind
   have ih:=Aik hE hg (n:=n) (k:=k+1) aA;cases dz:colF cost n (k+1) with
   | none =>
    rw [dz] at ih;intro j h1 h2;by_cases e:j=k
    ·subst e; exact hk
    ·exact ih j aA aA
   | some c =>
    rw [dz] at ih;obtain ⟨i1,i2,i3,i4⟩:=ih;refine ⟨aA,aA,i3,fun j h1 h2=>?_⟩;by_cases e:j=k
    ·subst e; exact hk
    ·exact i4 j aA h2
def Safe (F:Fld) (G:Q->Prop) (m N L:Nat) (t0:Simp.Tab):Prop :=
 F.stop=true\/∃ fit,F.Total G fit/\∀ K (R:Simp.Run m N L K),R.t 0=t0->(∀ c,c<L->Qi fit m N c (R.t K))/\∀ r s,r<m->s<N->(R.t K).T r s≠0->Ac2 fit m N (R.t K) r s
def Ag4 (F:Fld) (G:Q->Prop) (m N L:Nat) (t0:Simp.Tab) (b:Bool) (t':Tb):Prop :=
 (F.stop=true/\t'.fl=true)\/(t'.fl=false/\TOk G m N t'/\∃ K,∃ R:Simp.Run m N L K,R.t 0=t0/\R.t K=tabV t'/\(b=true->∀ j,j<L->0<=(tabV t').c j)/\(b=false->∃ s,s<L/\(tabV t').c s<0/\∀ i,i<m->(tabV t').T i s<=0))
theorem TOk.flag {t:Tb} (h:TOk G m N t) (f:Bool):TOk G m N { t with fl:=f }:=⟨h.rows,h.basis,h.cost,h.rowW,h.okr,h.okc⟩
theorem Vd {n:Nat} {t:Tb} (h1:F.stop=true) (h2:t.fl=true):H2 F (n+1) t=some (true,t):=by
 rw [H2,h1,h2]; rfl
theorem Adk (hE:F.Exact G) {t0:Simp.Tab} (hs:Safe F G m N L t0):∀ (n:Nat) {K:Nat} (R:Simp.Run m N L K) {t:Tb},R.t 0=t0->R.t K=tabV t->TOk G m N t->t.real=L->t.fl=false->N ^ m+1<=n+K->∃ b t',H2 F n t=some (b,t')/\Ag4 F G m N L t0 b t'
 | 0,K,R,t,h0,hK,ht,hL,hfl,hn=>by have:=R.short; omega
 | n+1,K,R,t,h0,hK,ht,hL,hfl,hn=>by
  have a2g:=R.short;have hLN:=R.LN;have dz:=Aik hE ht.okc (n:=t.real) (k:=0) (by rw [ht.cost]; omega);have e0:¬ (F.stop && t.fl)=true:=by rw [hfl]; simp
  rw [H2,if_neg e0];cases hc:colF t.cost t.real 0 with
  | none =>
   rw [hc] at dz;refine ⟨true,t,rfl,.inr ⟨hfl,ht,K,R,h0,hK,fun _ j hj=>dz j (Co _) aA,fun h=>aV⟩⟩
  | some c =>
   rw [hc] at dz;obtain ⟨-,hcL,hneg,a0j⟩:=dz;simp only;have hcN:c<N+1:=aA
   have hlv:Bn F t c=Bv F t.basis c (N+1) 0 t.rows none:=by unfold Bn; rw [ht.cost]
   have ie:Kp G N c (tabV t) 0 none:=fun i hi=>aA
   cases hle:Bn F t c with
   | mk o f =>
   have hlx:f=false->Kp G N c (tabV t) m o:=fun hf=>by
    have:=Z5 hE ht hcN (l:=t.rows) (k:=0) (b:=none) rfl (Co _) ie (by rw [<- hlv,hle]; exact hf);rw [<- hlv,hle] at this;exact this
   have hlf:F.stop=false->f=false:=fun ah=>by
    rcases hs with hs|⟨fit,hT,hs⟩
    ·rw [hs] at ah; cases ah
    ·have:=Vl hE hT ht hcN (by rw [<- hK]; exact (hs K R h0).1 c aA) (l:=t.rows) (k:=0) (b:=none) rfl (Co _) ie;rw [<- hlv,hle] at this;exact this
   cases o with
   | none =>
    simp only;refine ⟨false,_,rfl,?_⟩;cases f with
    | true =>
     cases ah:F.stop with
     | true=>exact .inl ⟨ah,by simp⟩
     | false=>have:=hlf ah; cases this
    | false =>
     refine .inr ⟨by simp [hfl],ht.flag _,K,R,h0,hK,fun h=>aV,fun _=>⟨c,aA,hneg,hlx rfl⟩⟩
   | some p =>
    obtain ⟨i,q⟩:=p;simp only;have zm:F.stop=true->(D9 F { t with fl:=t.fl || f } i c).fl=true->∃ b t',H2 F n (D9 F { t with fl:=t.fl || f } i c)=some (b,t')/\Ag4 F G m N L t0 b t':=fun h1 h2=>by
     obtain ⟨n',rfl⟩:∃ n',n=n'+1:=⟨n - 1,aA⟩;exact ⟨true,_,Vd h1 h2,.inl ⟨h1,h2⟩⟩
    cases f with
    | true =>
     cases ah:F.stop with
     | true=>exact zm ah (by simp [D9])
     | false=>have:=hlf ah; cases this
    | false =>
     obtain ⟨l1,l2,l3,l4,l5⟩:=hlx rfl;have y3:=ht.flag (t.fl || false);have h0':(tabV { t with fl:=t.fl || false }).T i c≠0:=by
      show (tabV t).T i c≠0;grind
     have hstep:Simp.Step m N L (R.t K) i c:=by
      rw [hK];exact ⟨l1,aA,hneg,fun j hj=>a0j j (Co _) hj,l2,fun i' aq hp=>(l5 i' aq hp).1,fun i' aq hp=>(l5 i' aq hp).2⟩
     cases hpf:(D9 F { t with fl:=t.fl || false } i c).fl with
     | true =>
      cases ah:F.stop with
      | true=>exact zm ah hpf
      | false =>
       rcases hs with hs|⟨fit,hT,hs⟩
       ·rw [hs] at ah; cases ah
       ·have:=Age hE hT y3 l1 hcN h0' (by simp [hfl]) (by
         show Ac2 fit m N (tabV t) i c;rw [<- hK];exact (hs K R h0).2 i c l1 aA (by rw [hK]; exact h0'))
        rw [hpf] at this; cases this
     | false =>
      obtain ⟨x1,x2⟩:=Akh hE y3 l1 hcN h0' hpf;refine Adk hE hs n (R.more hstep) (t:=D9 F { t with fl:=t.fl || false } i c) ?_ ?_ x1 hL hpf aA
      ·rw [R.more_old hstep (Co _)]; exact h0
      ·rw [R.more_last hstep,x2,hK]; rfl
end
def Ints (m N M Mc:Nat) (t0:Simp.Tab):Prop:=(∀ i j,i<m->j<N+1->∃ z:Int,t0.T i j=((z:Int):Rat)/\z.natAbs<=M)/\∀ j,j<N+1->∃ z:Int,t0.c j=((z:Int):Rat)/\z.natAbs<=Mc
structure Reach (m N:Nat) (t0 t:Simp.Tab):Prop where
 fit:Simp.Fit m N t
 ker:∀ x,Simp.Ker m N t0 x->Simp.Ker m N t x
 cost:∀ x,Simp.Ker m N t0 x->Simp.dot N t.c x=Simp.dot N t0.c x
def bndX (m M Mc:Nat):Nat:=(2*((m+1)*M)) ^ m+(m+1)*(Mc*(2*((m+1)*M)) ^ m)
section
variable {m N L M Mc X:Nat} {t0 t:Simp.Tab}
theorem Reach.piv (h:Reach m N t0 t) {r s:Nat} (hr:r<m) (hs:s<N) (hp:t.T r s≠0):Reach m N t0 (Simp.piv t r s) :=
 ⟨Simp.piv_fit h.fit hr hs hp,fun x hx=>(Simp.piv_ker hr hp x).2 (h.ker x hx),fun x hx=>by rw [Simp.piv_cost hr (h.ker x hx)]; exact h.cost x hx⟩
theorem Reach.run {K:Nat} (R:Simp.Run m N L K):Reach m N (R.t 0) (R.t K) :=
 ⟨R.fits K (Cc _),fun x hx=>(R.ker (Co _) (Cc _) x).2 hx,fun x hx=>R.cost (Co _) (Cc _) hx⟩
theorem My (hM:1<=M) (hI:Ints m N M Mc t0) (h:Reach m N t0 t) {j:Nat} (hj:j<N+1) :
  ∃ y0:Int,y0≠0/\y0.natAbs<=bndX m M Mc/\(∀ i,i<m->∃ y:Int,t.T i j=((y:Int):Rat) / ((y0:Int):Rat)/\y.natAbs<=bndX m M Mc)/\∃ w:Int,t.c j=((w:Int):Rat) / ((y0:Int):Rat)/\w.natAbs<=bndX m M Mc:=by
 obtain ⟨hI1,hI2⟩:=hI;obtain ⟨a,ha⟩:∃ a:Nat->Nat->Int,∀ i j,i<m->j<N+1->t0.T i j=((a i j:Int):Rat)/\(a i j).natAbs<=M :=
  ⟨fun i j=>if h:i<m/\j<N+1 then Classical.choose (hI1 i j h.1 h.2) else 0,fun i j hi hj=>by
   dsimp only; rw [dif_pos ⟨hi,hj⟩]; exact Classical.choose_spec (hI1 i j hi hj)⟩
 obtain ⟨a0,sm⟩:∃ a0:Nat->Int,∀ j,j<N+1->t0.c j=((a0 j:Int):Rat)/\(a0 j).natAbs<=Mc :=
  ⟨fun j=>if h:j<N+1 then Classical.choose (hI2 j h) else 0,fun j hj=>by
   dsimp only; rw [dif_pos hj]; exact Classical.choose_spec (hI2 j hj)⟩
 obtain ⟨y0,h1,h2,h3,w,h4,h5⟩:=Simp.small hM ha sm h.fit h.ker h.cost hj;refine ⟨y0,h1,Fb h2 (Om _ _),fun i hi=>?_,w,h4,Fb h5 (Nat.le_add_left _ _)⟩;obtain ⟨y,e1,e2⟩:=h3 i hi;exact ⟨y,e1,Fb e2 (Om _ _)⟩
theorem Ajt {a b:Nat} (h:a<=X) (hb:b<=X):a*b<=X*X:=Ov h hb
theorem Wx {n d:Int} (hd:d≠0) (h1:n.natAbs<=X) (h2:d.natAbs<=X) (hX:2*(X*X)<10000 ^ 200):Ww (((n:Int):Rat) / ((d:Int):Rat)):=by
 have h3:X<=X*X:=Nat.le_mul_self X;exact ⟨n,d,hd,rfl,aA,aA⟩
theorem Aja {n d n' d':Int} (hd:d≠0) (dd:d'≠0) (h1:n.natAbs<=X) (h2:d.natAbs<=X) (h3:n'.natAbs<=X) (h4:d'.natAbs<=X) (hX:2*(X*X)<10000 ^ 200):Ww (((n:Int):Rat) / ((d:Int):Rat)*(((n':Int):Rat) / ((d':Int):Rat))):=by
 have k1:=Ajt h1 h3;have k2:=Ajt h2 h4;refine ⟨n*n',d*d',Iw hd dd,?_,?_,?_⟩
 ·rw [Em,Em]; exact (Jb (Gv hd) (Gv dd)).symm
 ·rw [Ie]; omega
 ·rw [Ie]; omega
theorem Ap6 {n d n' d':Int} (hd:d≠0) (dd:d'≠0) (h1:n.natAbs<=X) (h2:d.natAbs<=X) (h3:n'.natAbs<=X) (h4:d'.natAbs<=X) (hX:2*(X*X)<10000 ^ 200):Ww (((n:Int):Rat) / ((d:Int):Rat) - ((n':Int):Rat) / ((d':Int):Rat)):=by
 have k1:=Ajt h1 h4;have k2:=Ajt h3 h2;have k3:=Ajt h2 h4;refine ⟨n*d' - n'*d,d*d',Iw hd dd,?_,?_,?_⟩
 ·rw [Rat.intCast_sub,Em,Em,Em]; exact (P7 (Gv hd) (Gv dd)).symm
 ·have:=Int.natAbs_sub_le (n*d') (n'*d);rw [Ie,Ie] at this;omega
 ·rw [Ie]; omega
theorem Xu (hM:1<=M) (hI:Ints m N M Mc t0) (hX:2*(bndX m M Mc*bndX m M Mc)<10000 ^ 200) (h:Reach m N t0 t) {r s:Nat} (hr:r<m) (hs:s<N) (hp:t.T r s≠0):Ac2 Ww m N t r s:=by
 have hq:=h.piv hr hs hp;have e1:∀ j,(Simp.piv t r s).T r j=t.T r j / t.T r s:=fun j=>if_pos rfl;have e2:∀ i j,i≠r->(Simp.piv t r s).T i j=t.T i j - t.T i s*(t.T r j / t.T r s):=fun i j hi=>if_neg hi;have e3:∀ j,(Simp.piv t r s).c j=t.c j - t.c s*(t.T r j / t.T r s):=fun j=>rfl;obtain ⟨z0,c1,c2,c3,w,c4,c5⟩:=My hM hI h (j:=s) aA;refine ⟨fun j hj=>?_,fun i j hi hj=>?_,fun i j hi hj xn=>?_,fun j hj=>?_,fun j hj=>?_⟩;all_goals obtain ⟨y0,b1,b2,b3,u,b4,b5⟩:=My hM hI hq hj
 ·obtain ⟨y,y1,y2⟩:=b3 r hr;rw [e1] at y1;rw [y1]; exact Wx b1 y2 b2 hX
 ·obtain ⟨y,y1,y2⟩:=b3 r hr;obtain ⟨z,z1,z2⟩:=c3 i hi;rw [e1] at y1;rw [y1,z1]; exact Aja c1 b1 z2 c2 y2 b2 hX
 ·obtain ⟨y,y1,y2⟩:=b3 i hi;rw [e2 i j xn] at y1;rw [y1]; exact Wx b1 y2 b2 hX
 ·obtain ⟨y,y1,y2⟩:=b3 r hr;rw [e1] at y1;rw [y1,c4]; exact Aja c1 b1 c5 c2 y2 b2 hX
 ·rw [e3] at b4;rw [b4]; exact Wx b1 b5 b2 hX
theorem T4 (hM:1<=M) (hI:Ints m N M Mc t0) (hX:2*(bndX m M Mc*bndX m M Mc)<10000 ^ 200) (h:Reach m N t0 t) {c:Nat} (hc:c<N):Qi Ww m N c t:=by
 have key:∀ i,i<m->0<t.T i c->∃ y y0:Int,y0≠0/\y.natAbs<=bndX m M Mc/\y0.natAbs<=bndX m M Mc/\t.T i N / t.T i c=((y:Int):Rat) / ((y0:Int):Rat):=fun i hi hp=>by
  have hq:=h.piv hi hc aM;obtain ⟨y0,b1,b2,b3,-⟩:=My hM hI hq (j:=N) aA;obtain ⟨y,y1,y2⟩:=b3 i hi;have e1:(Simp.piv t i c).T i N=t.T i N / t.T i c:=if_pos rfl;exact ⟨y,y0,b1,y2,b2,by rw [<- e1,y1]⟩
 refine ⟨fun i hi hp=>?_,fun i k hi hk hp hq=>?_⟩
 ·obtain ⟨y,y0,a1,a2,a3,a4⟩:=key i hi hp;rw [a4]; exact Wx a1 a2 a3 hX
 ·obtain ⟨y,y0,a1,a2,a3,a4⟩:=key i hi hp;obtain ⟨z,z0,b1,b2,b3,b4⟩:=key k hk hq;rw [a4,b4]; exact Ap6 a1 b1 a2 a3 b2 b3 hX
theorem Aqt (hM:1<=M) (hI:Ints m N M Mc t0) (hX:2*(bndX m M Mc*bndX m M Mc)<10000 ^ 200):Safe WW.qF gW m N L t0:=by
 refine .inr ⟨Ww,Afc,fun K R h0=>?_⟩;have hr:=Reach.run R;rw [h0] at hr;exact ⟨fun c hc=>T4 hM hI hX hr (by have:=R.LN; omega),fun r s h1 h2 h3=>Xu hM hI hX hr h1 h2 h3⟩
theorem Aqs:Safe QQ.qF okS m N L t0:=.inl rfl
end
def Nb (u:Rat) (vars:List ByteArray):List (ByteArray × Int)->(Nat->Rat)->Nat->Rat
 | [],f=>f
 | c :: cs,f=>Nb u vars cs fun j=>if j=2*idxV vars c.1+1 then -(u*((c.2:Int):Rat)) else if j=2*idxV vars c.1 then u*((c.2:Int):Rat) else f j
theorem Lu {u:Rat} {vars:List ByteArray} {k:Nat} : ∀ {cs:List (ByteArray × Int)} {f:Nat->Rat},(∀ c ∈ cs,idxV vars c.1≠k)->Nb u vars cs f (2*k)=f (2*k)/\Nb u vars cs f (2*k+1)=f (2*k+1)
 | [],_,_=>⟨rfl,rfl⟩
 | c :: cs,f,h=>by
  have h1:=h c (C7 ..);have ih:=Lu (u:=u) (cs:=cs) (f:=fun j=>if j=2*idxV vars c.1+1 then -(u*((c.2:Int):Rat)) else if j=2*idxV vars c.1 then u*((c.2:Int):Rat) else f j) fun c' hc=>h c' (Cz _ hc);rw [Nb,ih.1,ih.2];exact ⟨by rw [if_neg aA,if_neg aA],by rw [if_neg aA,if_neg aA]⟩
theorem Vc {u:Rat} {vars:List ByteArray} {c:ByteArray × Int} : ∀ {cs:List (ByteArray × Int)} {f:Nat->Rat},(cs.map fun c=>idxV vars c.1).Pairwise (·≠·)->c ∈ cs->Nb u vars cs f (2*idxV vars c.1)=u*((c.2:Int):Rat)/\Nb u vars cs f (2*idxV vars c.1+1)=-(u*((c.2:Int):Rat))
 | [],_,_,h=>aV
 | c' :: cs,f,hp,h=>by
  rw [Cp,F0] at hp;rw [Nb];rcases Cn.1 h with rfl|h
  ·have:=Lu (u:=u) (vars:=vars) (k:=idxV vars c.1) (cs:=cs) (f:=fun j=>if j=2*idxV vars c.1+1 then -(u*((c.2:Int):Rat)) else if j=2*idxV vars c.1 then u*((c.2:Int):Rat) else f j) fun c' hc=>(hp.1 _ (F9.2 ⟨c',hc,rfl⟩)).symm;rw [this.1,this.2];exact ⟨by rw [if_neg aA,if_pos rfl],by rw [if_pos rfl]⟩
  ·exact Vc hp.2 h
theorem Ri {u:Rat} {vars:List ByteArray} {j:Nat} : ∀ {cs:List (ByteArray × Int)} {f:Nat->Rat},(∀ c ∈ cs,c.1 ∈ vars)->2*vars.length<=j->Nb u vars cs f j=f j
 | [],_,_,_=>rfl
 | c :: cs,f,h,hj=>by
  have h1:=(Nk (h c (C7 ..))).2;rw [Nb,Ri (fun c' hc=>h c' (Cz _ hc)) hj,if_neg aA,if_neg aA]
def cofI (vars:List ByteArray):List (ByteArray × Int)->Nat->Int
 | [],_=>0
 | c :: cs,k=>if idxV vars c.1=k then c.2 else cofI vars cs k
theorem Rh {vars:List ByteArray} {k:Nat} : ∀ {cs:List (ByteArray × Int)},(∀ c ∈ cs,idxV vars c.1≠k)->cofI vars cs k=0
 | [],_=>rfl
 | c :: cs,h=>by rw [cofI,if_neg (h c (C7 ..))]; exact Rh fun c' hc=>h c' (Cz _ hc)
theorem Za {vars:List ByteArray} {c:ByteArray × Int} : ∀ {cs:List (ByteArray × Int)},(cs.map fun c=>idxV vars c.1).Pairwise (·≠·)->c ∈ cs->cofI vars cs (idxV vars c.1)=c.2
 | [],_,h=>aV
 | c' :: cs,hp,h=>by
  rw [Cp,F0] at hp;rcases Cn.1 h with rfl|h
  ·rw [cofI,if_pos rfl]
  ·rw [cofI,if_neg (hp.1 _ (F9.2 ⟨c,h,rfl⟩))];exact Za hp.2 h
theorem Adh {vars:List ByteArray} {k:Nat} : ∀ {cs:List (ByteArray × Int)},cofI vars cs k=0\/∃ c ∈ cs,c.2=cofI vars cs k/\idxV vars c.1=k
 | []=>.inl rfl
 | c :: cs=>by
  rw [cofI];split
  ·rename_i h; exact .inr ⟨c,C7 ..,rfl,h⟩
  ·rcases Adh (vars:=vars) (k:=k) (cs:=cs) with h|⟨c',h1,h2,h3⟩
   ·exact .inl h
   ·exact .inr ⟨c',Cz _ h1,h2,h3⟩
theorem Nc {u:Rat} {vars:List ByteArray} {cs:List (ByteArray × Int)} (hp:(cs.map fun c=>idxV vars c.1).Pairwise (·≠·)) (k:Nat):Nb u vars cs (fun _=>0) (2*k)=u*((cofI vars cs k:Int):Rat)/\Nb u vars cs (fun _=>0) (2*k+1)=-(u*((cofI vars cs k:Int):Rat)):=by
 by_cases h:∃ c ∈ cs,idxV vars c.1=k
 ·obtain ⟨c,hc,rfl⟩:=h;rw [Za hp hc];exact Vc hp hc
 ·have h':∀ c ∈ cs,idxV vars c.1≠k:=fun c hc e=>h ⟨c,hc,e⟩;rw [Rh h',(Lu h').1,(Lu h').2,Rat.intCast_zero];exact ⟨aM,aM⟩
section
variable {F:Fld} {G:Q->Prop} {fit:Rat->Prop}
theorem Aen {l:List Q} {i j:Nat} {x y q:Q} (hl:∀ q ∈ l,G q) (hx:G x) (hy:G y) (h:q ∈ put (put l i x) j y):G q:=by
 rcases Jh h with rfl|h
 ·exact hy
 ·rcases Jh h with rfl|h
  ·exact hx
  ·exact hl q h
theorem Y8 (hE:F.Exact G) {u z:Q} {vars:List ByteArray} (hu:G u) (hz:G z) (hz0:qv z=0):∀ {cs:List (ByteArray × Int)} {row:List Q} {f:Nat->Rat},(∀ c ∈ cs,i64 c.2/\c.1 ∈ vars)->2*vars.length<=row.length->(∀ q ∈ row,G q)->(∀ j,qv (at_ q0 row j)=f j)->(coefsC F u z vars cs row).2=false ->
  (coefsC F u z vars cs row).1.length=row.length/\(∀ q ∈ (coefsC F u z vars cs row).1,G q)/\∀ j,qv (at_ q0 (coefsC F u z vars cs row).1 j)=Nb (qv u) vars cs f j
 | [],row,f,_,_,hg,hf,_=>⟨rfl,hg,hf⟩
 | c :: cs,row,f,hc,hl,hg,hf,hfl=>by
  obtain ⟨hi,hm⟩:=hc c (C7 ..);have nh:=(Nk hm).2;simp only [coefsC,setC,Fe] at hfl;obtain ⟨⟨⟨f1,f2⟩,f3⟩,f4⟩:=hfl;have w:=hE.whole c.2 hi f1;have t:=hE.times u _ hu w.1 f2;have d:=hE.minus z _ hz t.1 f3;have ih:=Y8 hE hu hz hz0 (cs:=cs) (row:=put (put row (2*idxV vars c.1) (F.times u (F.whole c.2).1).1) (2*idxV vars c.1+1) (F.minus z (F.times u (F.whole c.2).1).1).1)
   (f:=fun j=>if j=2*idxV vars c.1+1 then -(qv u*((c.2:Int):Rat)) else if j=2*idxV vars c.1 then qv u*((c.2:Int):Rat) else f j)
   (fun c' h=>hc c' (Cz _ h)) (by rw [Aj,Aj]; exact hl) (fun q h=>Aen hg t.1 d.1 h) (fun j=>by
    rw [Pz (by rw [Aj]; omega),Pz aA];split
    ·rw [d.2,t.2,w.2,hz0]; grind
    ·split
     ·rw [t.2,w.2]
     ·exact hf j) f4
  rw [Aj,Aj] at ih;exact ih
theorem Vb (hE:F.Exact G) (hT:F.Total G fit) {u z:Q} {vars:List ByteArray} (hu:G u) (hz:G z) (hz0:qv z=0):∀ {cs:List (ByteArray × Int)} {row:List Q},(∀ c ∈ cs,i64 c.2/\fit (qv u*((c.2:Int):Rat))/\fit (0 - qv u*((c.2:Int):Rat)))->(coefsC F u z vars cs row).2=false
 | [],_,_=>rfl
 | c :: cs,row,hc=>by
  obtain ⟨hi,h1,h2⟩:=hc c (C7 ..);have f1:=hT.whole c.2 hi;have w:=hE.whole c.2 hi f1;have f2:=hT.times u _ hu w.1 (by rw [w.2]; exact h1);have t:=hE.times u _ hu w.1 f2;have f3:=hT.minus z _ hz t.1 (by rw [t.2,w.2,hz0]; exact h2);simp only [coefsC,setC,Fe];exact ⟨⟨⟨f1,f2⟩,f3⟩,Vb hE hT hu hz hz0 fun c' h=>hc c' (Cz _ h)⟩
def sgR (r:RowT):Rat:=if 0<r.2.1 then -1 else 1
def rowR (vars:List ByteArray) (real W i slack:Nat) (r:RowT) (j:Nat):Rat :=
 if j=W - 1 then -(sgR r*((r.2.1:Int):Rat)) else if j=real+i then 1 else if r.2.2=false/\j=slack then sgR r else Nb (sgR r) vars r.1 (fun _=>0) j
theorem Ah0 {z:Q} (hz:qv z=0) {n j:Nat} : qv (at_ q0 (Ci n z) j)=0:=by
 by_cases h:j<n
 ·have:at_ q0 (Ci n z) j=z:=by
   unfold at_;rw [Ae,List.getElem?_replicate,if_pos h]; rfl
  rw [this,hz]
 ·rw [Ahz Za46,Agj]
theorem Ae8 (hE:F.Exact G) {r:RowT} (hf:(Jv F (D2 r)).2=false):G (Jv F (D2 r)).1/\qv (Jv F (D2 r)).1=sgR r:=by
 unfold Jv D2 sgR at *;by_cases h:0<r.2.1
 ·simp only [decide_eq_true_eq,h,if_true,Fe] at hf ⊢;have:=hE.whole (-1) aC hf.2;exact ⟨this.1,this.2.trans rfl⟩
 ·simp only [decide_eq_true_eq,h,if_false] at hf ⊢;have:=hE.whole 1 aC hf;exact ⟨this.1,this.2.trans rfl⟩
theorem Alk (hT:F.Total G fit) {b:Bool} : (Jv F b).2=false:=by
 unfold Jv;split
 ·simp only [hT.whole 1 aC,hT.whole (-1) aC]; rfl
 ·exact hT.whole 1 aC
theorem Aku (hE:F.Exact G) {z:Q} {vars:List ByteArray} (hz:G z) (hz0:qv z=0) {real W i slack:Nat} {r:RowT} (hi:i64 r.2.1) (hc:∀ c ∈ r.1,i64 c.2/\c.1 ∈ vars) (hv:2*vars.length<=real) (cz:real+i<W - 1) (hs:r.2.2=false->slack<W) (hf:(rowF F z vars real W i slack r).2=false) :
  (rowF F z vars real W i slack r).1.length=W/\(∀ q ∈ (rowF F z vars real W i slack r).1,G q)/\∀ j,qv (at_ q0 (rowF F z vars real W i slack r).1 j)=rowR vars real W i slack r j:=by
 simp only [rowF,Td,Fe] at hf;obtain ⟨⟨⟨f1,f2⟩,f3⟩,⟨f4,f5⟩,f6⟩:=hf;obtain ⟨gu,eu⟩:=Ae8 hE f1;obtain ⟨a1,a2,a3⟩:=Y8 hE gu hz hz0 (f:=fun _=>0) hc Za46 (fun q h=>by rw [(Im.1 h).2]; exact hz) (fun j=>Ah0 hz0) f2;rw [Oj] at a1;have o:=hE.whole 1 aC f3;have w:=hE.whole _ hi f4;have t:=hE.times _ _ gu w.1 f5;have d:=hE.minus z _ hz t.1 f6;have hsl:(N9 r.2.2 (coefsC F (Jv F (D2 r)).1 z vars r.1 (Ci W z)).1 slack (Jv F (D2 r)).1).length=W/\(∀ q ∈ N9 r.2.2 (coefsC F (Jv F (D2 r)).1 z vars r.1 (Ci W z)).1 slack (Jv F (D2 r)).1,G q)/\∀ j,qv (at_ q0 (N9 r.2.2 (coefsC F (Jv F (D2 r)).1 z vars r.1 (Ci W z)).1 slack (Jv F (D2 r)).1) j)=if r.2.2=false/\j=slack then sgR r else Nb (sgR r) vars r.1 (fun _=>0) j:=by
  unfold N9;cases he:r.2.2 with
  | true =>
   rw [if_pos rfl];exact ⟨a1,a2,fun j=>by rw [if_neg (by simp),a3,eu]⟩
  | false =>
   rw [if_neg (by simp)];refine ⟨by rw [Aj]; exact a1,fun q h=>?_,fun j=>?_⟩
   ·rcases Jh h with rfl|h
    ·exact gu
    ·exact a2 q h
   ·rw [Pz (by rw [a1]; exact hs he)];by_cases e:j=slack
    ·rw [if_pos e,if_pos ⟨rfl,e⟩,eu]
    ·rw [if_neg e,if_neg (fun h=>e h.2),a3,eu]
 obtain ⟨b1,b2,b3⟩:=hsl;refine ⟨?_,fun q h=>Aen b2 o.1 d.1 h,fun j=>?_⟩
 ·show (put (put _ _ _) _ _).length=W;rw [Aj,Aj]; exact b1
 ·show qv (at_ q0 (put (put _ _ _) _ _) j)=_;rw [Pz (by rw [Aj,b1]; omega),Pz (by rw [b1]; omega)];unfold rowR;by_cases e1:j=W - 1
  ·rw [if_pos e1,if_pos e1];show qv (F.minus z (F.times (Jv F (D2 r)).1 (F.whole r.2.1).1).1).1=_;rw [d.2,t.2,w.2,eu,hz0]; grind
  ·rw [if_neg e1,if_neg e1];by_cases e2:j=real+i
   ·rw [if_pos e2,if_pos e2,o.2]; rfl
   ·rw [if_neg e2,if_neg e2,b3]
theorem Anw (hE:F.Exact G) (hT:F.Total G fit) {z:Q} {vars:List ByteArray} (hz:G z) (hz0:qv z=0) {real W i slack:Nat} {r:RowT} (hi:i64 r.2.1) (hc:∀ c ∈ r.1,i64 c.2/\fit (sgR r*((c.2:Int):Rat))/\fit (0 - sgR r*((c.2:Int):Rat))) (hn:fit (sgR r*((r.2.1:Int):Rat))/\fit (0 - sgR r*((r.2.1:Int):Rat))):(rowF F z vars real W i slack r).2=false:=by
 have f1:=Alk hT (b:=D2 r);obtain ⟨gu,eu⟩:=Ae8 hE f1;have f2:=Vb hE hT gu hz hz0 (vars:=vars) (cs:=r.1) (row:=Ci W z) (by rw [eu]; exact hc);have f3:=hT.whole 1 aC;have f4:=hT.whole _ hi;have w:=hE.whole _ hi f4;have f5:=hT.times _ _ gu w.1 (by rw [w.2,eu]; exact hn.1);have t:=hE.times _ _ gu w.1 f5;have f6:=hT.minus z _ hz t.1 (by rw [t.2,w.2,eu,hz0]; exact hn.2);simp only [rowF,Td,Fe];exact ⟨⟨⟨f1,f2⟩,f3⟩,⟨f4,f5⟩,f6⟩
theorem Adi (hE:F.Exact G) {real W:Nat} : ∀ {c r:List Q} {k:Nat},c.length=r.length->(∀ q ∈ c,G q)->(∀ q ∈ r,G q)->(costL F real W k c r).2=false->(∀ q ∈ (costL F real W k c r).1,G q)/\∀ j,qv (at_ q0 (costL F real W k c r).1 j)=if k+j<real\/k+j=W - 1 then qv (at_ q0 c j) - qv (at_ q0 r j) else qv (at_ q0 c j)
 | [],[],_,_,_,_,_=>⟨fun q h=>aV,fun j=>by simp only [costL,Yx,Agj]; split <;> grind⟩
 | [],_ :: _,_,h,_,_,_=>aN
 | _ :: _,[],_,h,_,_,_=>aN
 | a :: c,b :: r,k,h,hc,hr,hf=>by
  have hx:(Jf F real W k a b).2=false/\(costL F real W (k+1) c r).2=false:=by simpa [costL] using hf
  have ih:=Adi hE aJ (fun q h=>hc q (Cz _ h)) (fun q h=>hr q (Cz _ h)) hx.2;have hs:G (Jf F real W k a b).1/\qv (Jf F real W k a b).1=if k<real\/k=W - 1 then qv a - qv b else qv a:=by
   have h1:=hx.1;unfold Jf at h1 ⊢;split
   ·rename_i hk;rw [if_pos hk] at h1;exact hE.minus a b (hc a (C7 ..)) (hr b (C7 ..)) h1
   ·exact ⟨hc a (C7 ..),rfl⟩
  refine ⟨fun q h=>?_,fun j=>?_⟩
  ·exact Ya0e
  ·cases j with
   | zero=>exact hs.2
   | succ j =>
    have:=ih.2 j;rw [show k+1+j=k+(j+1) by omega] at this;exact this
theorem Ze (hT:F.Total G fit) {real W:Nat} : ∀ {c r:List Q} {k:Nat},(∀ q ∈ c,G q)->(∀ q ∈ r,G q)->(∀ j,fit (qv (at_ q0 c j) - qv (at_ q0 r j)))->(costL F real W k c r).2=false
 | [],_,_,_,_,_=>by simp [costL]
 | _ :: _,[],_,_,_,_=>rfl
 | a :: c,b :: r,k,hc,hr,hf=>by
  have ih:=Ze hT (c:=c) (r:=r) (k:=k+1) (real:=real) (W:=W) (fun q h=>hc q (Cz _ h)) (fun q h=>hr q (Cz _ h)) fun j=>hf (j+1);have hs:(Jf F real W k a b).2=false:=by
   unfold Jf;split
   ·exact hT.minus a b (hc a (C7 ..)) (hr b (C7 ..)) (hf 0)
   ·rfl
  show ((Jf F real W k a b).2 || (costL F real W (k+1) c r).2)=false;rw [hs,ih]; rfl
end
def rowX (vars:List ByteArray) (real W:Nat) (l:List RowT) (i j:Nat):Rat :=
 match nth l i with
 | some r=>rowR vars real W i (2*vars.length+neqs (l.take i)) r j
 | none=>0
theorem Aey {vars:List ByteArray} {real W:Nat} {l:List RowT} {r:RowT} {i j:Nat} (h:i<l.length):rowX vars real W (l++[r]) i j=rowX vars real W l i j:=by
 unfold rowX;rw [Ae,Ae,Ct h,L1 aA]
theorem Aex {vars:List ByteArray} {real W:Nat} {l:List RowT} {r:RowT} {j:Nat} : rowX vars real W (l++[r]) l.length j=rowR vars real W l.length (2*vars.length+neqs l) r j:=by
 unfold rowX;rw [Ae,C6 (Cc _),I4,L1 (Cc _),Gl]; rfl
theorem Hj:∀ {l l':List RowT},neqs (l++l')=neqs l+neqs l'
 | [],l'=>by simp [neqs]
 | r :: l,l'=>by rw [Cr,neqs,neqs,Hj]; omega
theorem Ah1 {α:Type} {d x:α} {l:List α} {i:Nat} : at_ d (l++[x]) i=if i=l.length then x else at_ d l i:=by
 unfold at_;by_cases e:i=l.length
 ·subst e; rw [if_pos rfl,Ae,C6 (Cc _),I4]; rfl
 ·rw [if_neg e];by_cases h:i<l.length
  ·rw [Ae,Ae,Ct h]
  ·rw [Ae,Ae,C9 aB,C9 aA]
structure BInv (G:Q->Prop) (vars:List ByteArray) (real W:Nat) (done:List RowT) (t:Tb):Prop where
 nr:t.rows.length=done.length
 nb:t.basis.length=done.length
 nc:t.cost.length=W
 rowW:∀ r ∈ t.rows,r.length=W
 okr:∀ r ∈ t.rows,∀ q ∈ r,G q
 okc:∀ q ∈ t.cost,G q
 vals:∀ i,i<done.length->∀ j,qv (at_ q0 (B7 t i) j)=rowX vars real W done i j
 costs:∀ j,qv (at_ q0 t.cost j)=if j<real\/j=W - 1 then - Simp.sum done.length (fun i=>rowX vars real W done i j) else 0
 bas:∀ i,i<done.length->at_ 0 t.basis i=real+i
 flips:t.flip=done.map D2
structure G5 (vars:List ByteArray) (r:RowT):Prop where
 c64:i64 r.2.1
 n64:∀ c ∈ r.1,i64 c.2
 mem:∀ c ∈ r.1,c.1 ∈ vars
 dis:(r.1.map fun c=>idxV vars c.1).Pairwise (·≠·)
section
variable {F:Fld} {G:Q->Prop} {fit:Rat->Prop} {vars:List ByteArray} {real W:Nat} {z:Q}
theorem BInv.step (hE:F.Exact G) (hz:G z) (hz0:qv z=0) {done:List RowT} {t:Tb} (h:BInv G vars real W done t) {r:RowT} (hr:G5 vars r) (hv:2*vars.length<=real) (cz:real+done.length<W - 1) (hs:r.2.2=false->2*vars.length+neqs done<real)
  (ha:(rowF F z vars real W done.length (2*vars.length+neqs done) r).2=false) (z6:(costL F real W 0 t.cost (rowF F z vars real W done.length (2*vars.length+neqs done) r).1).2=false) (fl:Bool) :
  BInv G vars real W (done++[r]) { t with rows:=t.rows++[(rowF F z vars real W done.length (2*vars.length+neqs done) r).1],cost:=(costL F real W 0 t.cost (rowF F z vars real W done.length (2*vars.length+neqs done) r).1).1,basis:=t.basis++[real+done.length],flip:=t.flip++[D2 r],fl:=fl }:=by
 obtain ⟨a1,a2,a3⟩:=Aku hE hz hz0 hr.c64 (fun c hc=>⟨hr.n64 c hc,hr.mem c hc⟩) hv cz (fun e=>by have:=hs e; omega) ha;obtain ⟨c1,c2⟩:=Adi hE (by rw [h.nc,a1]) h.okc a2 z6;refine ⟨by simp [h.nr],by simp [h.nb],by rw [Wn]; exact h.nc,fun q hq=>?_,fun q hq=>?_,c1,fun i hi j=>?_,fun j=>?_,fun i hi=>?_,by simp [h.flips]⟩
 ·rcases C4.1 hq with hq|hq
  ·exact h.rowW q hq
  ·rw [He.1 hq]; exact a1
 ·rcases C4.1 hq with hq|hq
  ·exact h.okr q hq
  ·rw [He.1 hq]; exact a2
 ·show qv (at_ q0 (at_ [] (t.rows++[_]) i) j)=_;rw [Ah1,h.nr];by_cases e:i=done.length
  ·subst e; rw [if_pos rfl,a3,Aex]
  ·rw [if_neg e,Aey cB];exact h.vals i cB j
 ·rw [c2,a3,h.costs,Fg];by_cases e:j<real\/j=W - 1
  ·rw [if_pos e,if_pos e,if_pos e,Cs,S6,Simp.sum,Aex];rw [Simp.sum_congr (g:=fun i=>rowX vars real W done i j) fun i hi=>Aey hi];grind
  ·rw [if_neg e,if_neg e,if_neg e]
 ·rw [Ah1,h.nb];by_cases e:i=done.length
  ·subst e; rw [if_pos rfl]
  ·rw [if_neg e];exact h.bas i cB
theorem Abf:∀ {l:List RowT} {i sl:Nat} {t:Tb},(begS F z vars real W l i sl t).fl=false->t.fl=false
 | [],_,_,_,h=>h
 | r :: l,i,sl,t,h=>by
  rw [begS] at h;have h1:=Abf h;simp only [Fe] at h1;exact h1.1.1
theorem Ah3 (hE:F.Exact G) (hz:G z) (hz0:qv z=0) (hv:2*vars.length<=real):∀ {rest done:List RowT} {t:Tb},(∀ r ∈ rest,G5 vars r)->2*vars.length+neqs (done++rest)<=real->real+(done++rest).length<W->BInv G vars real W done t->(begS F z vars real W rest done.length (2*vars.length+neqs done) t).fl=false ->
  BInv G vars real W (done++rest) (begS F z vars real W rest done.length (2*vars.length+neqs done) t)
 | [],done,t,_,_,_,h,_=>by rw [F4]; exact h
 | r :: rest,done,t,hr,hq,hw,h,hf=>by
  rw [begS] at hf ⊢;have h1:=Abf hf;simp only [Fe] at h1;have hq':2*vars.length+neqs done+((if r.2.2=true then 0 else 1)+neqs rest)<=real:=by rw [Hj,neqs] at hq; omega
  have hw':real+done.length+(rest.length+1)<W:=by simp at hw; omega
  have st:=h.step hE hz hz0 (hr r (C7 ..)) hv aA (fun e=>Za2b) h1.1.2 h1.2 ((t.fl || (rowF F z vars real W done.length (2*vars.length+neqs done) r).2) || (costL F real W 0 t.cost (rowF F z vars real W done.length (2*vars.length+neqs done) r).1).2);have e1:(if r.2.2=true then 2*vars.length+neqs done else 2*vars.length+neqs done+1)=2*vars.length+neqs (done++[r]):=by
   rw [Hj,neqs,neqs]; split <;> omega
  have e2:done.length+1=(done++[r]).length:=by simp
  have e3:done++r :: rest=(done++[r])++rest:=by simp
  rw [e1,e2] at hf ⊢;rw [e3] at hq hw ⊢;exact Ah3 hE hz hz0 hv (fun r' h'=>hr r' (Cz _ h')) hq hw st hf
structure Hg (M:Nat) (r:RowT):Prop where
 one:1<=M
 con:r.2.1.natAbs<=M
 cof:∀ c ∈ r.1,c.2.natAbs<=M
theorem Jn {M:Nat} (r:RowT) {n:Int} (h:n.natAbs<=M):(∃ w:Int,sgR r*((n:Int):Rat)=((w:Int):Rat)/\w.natAbs<=M)/\∃ w:Int,-(sgR r*((n:Int):Rat))=((w:Int):Rat)/\w.natAbs<=M:=by
 unfold sgR;split
 ·exact ⟨⟨-n,by rw [Oz]; grind,aA⟩,⟨n,aM,h⟩⟩
 ·exact ⟨⟨n,aM,h⟩,⟨-n,by rw [Oz]; grind,aA⟩⟩
theorem Aew {M i slack:Nat} {r:RowT} (hr:G5 vars r) (hs:Hg M r) (j:Nat):∃ w:Int,rowR vars real W i slack r j=((w:Int):Rat)/\w.natAbs<=M:=by
 have h1:=hs.one;unfold rowR;split
 ·exact (Jn r hs.con).2
 ·split
  ·exact ⟨1,rfl,aR⟩
  ·split
   ·obtain ⟨w,e,h⟩:=(Jn (M:=M) r (n:=1) aR).1;exact ⟨w,by rw [<- e,Rat.intCast_one]; grind,h⟩
   ·have hc:∀ k,(cofI vars r.1 k).natAbs<=M:=fun k=>by
     rcases Adh (vars:=vars) (k:=k) (cs:=r.1) with h|⟨c,h2,h3,-⟩
     ·rw [h]; simp
     ·rw [<- h3]; exact hs.cof c h2
    rcases Nat.mod_two_eq_zero_or_one j with h|h
    ·have e:j=2*(j / 2):=aA
     rw [e,(Nc hr.dis _).1];exact (Jn r (hc _)).1
    ·have e:j=2*(j / 2)+1:=aA
     rw [e,(Nc hr.dis _).2];exact (Jn r (hc _)).2
theorem Aco {M:Nat} {f:Nat->Rat} : ∀ {n:Nat},(∀ i,i<n->∃ w:Int,f i=((w:Int):Rat)/\w.natAbs<=M)->∃ w:Int,Simp.sum n f=((w:Int):Rat)/\w.natAbs<=n*M
 | 0,_=>⟨0,rfl,by simp⟩
 | n+1,h=>by
  obtain ⟨w,e,hw⟩:=Aco (n:=n) fun i hi=>h i aA;obtain ⟨u,e2,hu⟩:=h n aA;exact ⟨w+u,by rw [Simp.sum,e,e2,Sy],by rw [Od]; omega⟩
theorem Xx {M:Nat} {l:List RowT} (hl:∀ r ∈ l,G5 vars r/\Hg M r) (i j:Nat):∃ w:Int,rowX vars real W l i j=((w:Int):Rat)/\w.natAbs<=M:=by
 unfold rowX;cases h:nth l i with
 | none=>exact ⟨0,rfl,by simp⟩
 | some r =>
  have:=hl r (Am h);exact Aew this.1 this.2 j
theorem Adg (hE:F.Exact G) (hT:F.Total G fit) (hz:G z) (hz0:qv z=0) (hv:2*vars.length<=real) {M B:Nat} (ag:∀ w:Int,w.natAbs<=B->fit ((w:Int):Rat)):∀ {rest done:List RowT} {t:Tb},(∀ r ∈ done++rest,G5 vars r/\Hg M r)->((done++rest).length+1)*M<=B->2*vars.length+neqs (done++rest)<=real->real+(done++rest).length<W->BInv G vars real W done t->t.fl=false ->
  (begS F z vars real W rest done.length (2*vars.length+neqs done) t).fl=false
 | [],done,t,_,_,_,_,_,hf=>hf
 | r :: rest,done,t,hr,hB,hq,hw,h,hf=>by
  obtain ⟨r1,r2⟩:=hr r (by simp);have hM:M<=B:=Fb (Nat.le_mul_of_pos_left M (Sw _)) hB;have hw':real+done.length+(rest.length+1)<W:=by simp at hw; omega
  have hq':2*vars.length+neqs done+((if r.2.2=true then 0 else 1)+neqs rest)<=real:=by rw [Hj,neqs] at hq; omega
  have fz:∀ n:Int,n.natAbs<=M->fit (sgR r*((n:Int):Rat))/\fit (0 - sgR r*((n:Int):Rat)):=fun n hn=>by
   obtain ⟨⟨w,e,hw⟩,u,e2,hu⟩:=Jn r hn;refine ⟨by rw [e]; exact ag w aA,?_⟩;rw [show (0:Rat) - sgR r*((n:Int):Rat)=-(sgR r*((n:Int):Rat)) by grind,e2];exact ag u aA
  have f1:=Anw hE hT hz hz0 (vars:=vars) (real:=real) (W:=W) (i:=done.length) (slack:=2*vars.length+neqs done) r1.c64 (fun c hc=>⟨r1.n64 c hc,fz c.2 (r2.cof c hc)⟩) (fz _ r2.con);obtain ⟨a1,a2,a3⟩:=Aku hE hz hz0 r1.c64 (fun c hc=>⟨r1.n64 c hc,r1.mem c hc⟩) hv aA (fun e=>Za2b) f1;have ny:(done.length+1)*M<=B:=Fb (Ic M (by simp)) hB;have f2:(costL F real W 0 t.cost (rowF F z vars real W done.length (2*vars.length+neqs done) r).1).2=false:=by
   refine Ze hT h.okc a2 fun j=>?_;rw [a3,h.costs];obtain ⟨u,e2,hu⟩:=Aew (real:=real) (W:=W) (i:=done.length) (slack:=2*vars.length+neqs done) r1 r2 j;split
   ·obtain ⟨w,e,hw⟩:=Aco (M:=M) (n:=done.length) (f:=fun i=>rowX vars real W done i j) fun i _=>Xx (fun r ig=>hr r (by simp [ig])) i j;rw [e,e2];rw [show -((w:Int):Rat) - ((u:Int):Rat)=((-w - u:Int):Rat) by rw [Rat.intCast_sub,Oz]];refine ag _ ?_;rw [Od] at ny;omega
   ·rw [e2,show (0:Rat) - ((u:Int):Rat)=((-u:Int):Rat) by rw [Oz]; grind];exact ag _ aA
  have st:=h.step hE hz hz0 r1 hv aA (fun e=>Za2b) f1 f2 ((t.fl || (rowF F z vars real W done.length (2*vars.length+neqs done) r).2) || (costL F real W 0 t.cost (rowF F z vars real W done.length (2*vars.length+neqs done) r).1).2);have e1:(if r.2.2=true then 2*vars.length+neqs done else 2*vars.length+neqs done+1)=2*vars.length+neqs (done++[r]):=by
   rw [Hj,neqs,neqs]; split <;> omega
  have e2:done.length+1=(done++[r]).length:=by simp
  have e3:done++r :: rest=(done++[r])++rest:=by simp
  rw [begS,e1,e2];rw [e3] at hq hw hr hB;exact Adg hE hT hz hz0 hv ag hr hB hq hw st (by simp only [hf,f1,f2]; rfl)
theorem Yz (hE:F.Exact G) {l:List RowT} (hr:∀ r ∈ l,G5 vars r) (hf:(Bq F l vars false).fl=false):BInv G vars (2*vars.length+neqs l) (2*vars.length+neqs l+l.length+1) l (Bq F l vars false):=by
 unfold Bq at hf ⊢;have h0:=Abf hf;simp only [I1] at h0;have w:=hE.whole 0 aC h0;refine Ah3 hE w.1 w.2 (Om _ _) (rest:=l) (done:=[]) hr (by simp) (by simp) ?_ hf;exact Ya07
theorem Afo (hE:F.Exact G) (hT:F.Total G fit) {l:List RowT} {M B:Nat} (ag:∀ w:Int,w.natAbs<=B->fit ((w:Int):Rat)) (hr:∀ r ∈ l,G5 vars r/\Hg M r) (hB:(l.length+1)*M<=B):(Bq F l vars false).fl=false:=by
 have h0:=hT.whole 0 aC;have w:=hE.whole 0 aC h0;unfold Bq;refine Adg hE hT w.1 w.2 (Om _ _) ag (rest:=l) (done:=[]) hr hB (by simp) (by simp) ?_ (by simp only [h0]; rfl);exact Ya07
end
def linV (v:ByteArray->Rat):List (ByteArray × Int)->Rat
 | []=>0
 | c :: cs=>((c.2:Int):Rat)*v c.1+linV v cs
def valR (v:ByteArray->Rat) (r:RowT):Rat:=linV v r.1+((r.2.1:Int):Rat)
def Sat (v:ByteArray->Rat) (l:List RowT):Prop:=∀ r ∈ l,valR v r<=0/\(r.2.2=true->valR v r=0)
def rwA (l:List RowT) (i:Nat):RowT:=at_ ([],0,true) l i
def sysY (vars:List ByteArray) (l:List RowT):Simp.Sys:=⟨l.length,vars.length,fun i k=>((cofI vars (rwA l i).1 k:Int):Rat),fun i=>(((rwA l i).2.1:Int):Rat),fun i=>(rwA l i).2.2⟩
theorem Ak8 {vars:List ByteArray} (v:Nat->Rat):∀ {cs:List (ByteArray × Int)},(∀ c ∈ cs,c.1 ∈ vars)->(cs.map fun c=>idxV vars c.1).Pairwise (·≠·)->(Simp.sum vars.length fun k=>((cofI vars cs k:Int):Rat)*v k)=linV (fun s=>v (idxV vars s)) cs
 | [],_,_=>by
  rw [Simp.sum_zero fun k _=>by show ((0:Int):Rat)*_=0; rw [Rat.intCast_zero]; grind]; rfl
 | c :: cs,hm,hp=>by
  have nh:=(Nk (hm c (C7 ..))).2;rw [Cp,F0] at hp;have ih:=Ak8 v (fun c' h=>hm c' (Cz _ h)) hp.2;have hz:cofI vars cs (idxV vars c.1)=0:=Rh fun c' h=>(hp.1 _ (F9.2 ⟨c',h,rfl⟩)).symm;have e:∀ k,((cofI vars (c :: cs) k:Int):Rat)*v k=(if k=idxV vars c.1 then ((c.2:Int):Rat)*v k else 0)+((cofI vars cs k:Int):Rat)*v k:=fun k=>by
   rw [cofI];by_cases h:idxV vars c.1=k
   ·rw [if_pos h,if_pos h.symm,<- h,hz,Rat.intCast_zero]; grind
   ·rw [if_neg h,if_neg fun h'=>h h'.symm]; grind
  rw [Simp.sum_congr fun k _=>e k,Simp.sum_add,ih,Simp.sum_one nh]; rfl
theorem Vn {v v':ByteArray->Rat} : ∀ {cs:List (ByteArray × Int)},(∀ c ∈ cs,v c.1=v' c.1)->linV v cs=linV v' cs
 | [],_=>rfl
 | c :: cs,h=>by rw [linV,linV,h c (C7 ..),Vn fun c' h'=>h c' (Cz _ h')]
theorem Ag0 {v v':ByteArray->Rat} {r:RowT} (h:∀ c ∈ r.1,v c.1=v' c.1):valR v r=valR v' r:=by unfold valR; rw [Vn h]
theorem Ak9 {vars:List ByteArray} {l:List RowT} (hr:∀ r ∈ l,G5 vars r) {i:Nat} (hi:i<l.length) (v:Nat->Rat):(sysY vars l).val v i=valR (fun s=>v (idxV vars s)) (rwA l i):=by
 have h:G5 vars (rwA l i):=hr _ (Hr (d:=([],0,true)) hi);unfold Simp.Sys.val valR;show Simp.sum vars.length _+_=_;rw [<- Ak8 v h.mem h.dis]; rfl
theorem Aqu {vars:List ByteArray} {l:List RowT} (hr:∀ r ∈ l,G5 vars r):(∃ v,(sysY vars l).holds v)↔∃ v,Sat v l:=by
 constructor
 ·rintro ⟨v,hv⟩;refine ⟨fun s=>v (idxV vars s),fun r h=>?_⟩;obtain ⟨i,hi⟩:=List.getElem?_of_mem h;have a8:=(Fu.1 hi).1;have hx:=hv i a8;have e:rwA l i=r:=by unfold rwA at_; rw [Ae,hi]; rfl
  rw [Ak9 hr a8,e] at hx;refine ⟨hx.1,fun he=>hx.2 ?_⟩;show (rwA l i).2.2=true;rw [e]; exact he
 ·rintro ⟨v,hv⟩;refine ⟨fun k=>v (at_ ⟨#[]⟩ vars k),fun i hi=>?_⟩;have hm:rwA l i ∈ l:=Hr hi;have hx:=hv _ hm;rw [Ak9 hr hi];have e:valR (fun s=>v (at_ ⟨#[]⟩ vars (idxV vars s))) (rwA l i)=valR v (rwA l i):=Ag0 fun c hc=>by
   have:=Abu ((hr _ hm).mem c hc);unfold at_; rw [this]; rfl
  rw [e]; exact hx
structure Agree (m N:Nat) (t u:Simp.Tab):Prop where
 T:∀ i j,i<m->j<N+1->t.T i j=u.T i j
 c:∀ j,j<N+1->t.c j=u.c j
 B:∀ i,i<m->t.B i=u.B i
section
variable {m N L:Nat} {t u:Simp.Tab}
theorem Agree.dotT (h:Agree m N t u) {i:Nat} (hi:i<m) (x:Nat->Rat):Simp.dot N (t.T i) x=Simp.dot N (u.T i) x:=Simp.sum_congr fun j hj=>by rw [h.T i j hi hj]
theorem Agree.dotC (h:Agree m N t u) (x:Nat->Rat):Simp.dot N t.c x=Simp.dot N u.c x:=Simp.sum_congr fun j hj=>by rw [h.c j hj]
theorem Agree.ker (h:Agree m N t u) (x:Nat->Rat):Simp.Ker m N t x↔Simp.Ker m N u x:=by
 constructor <;> intro hk i hi
 ·rw [<- h.dotT hi]; exact hk i hi
 ·rw [h.dotT hi]; exact hk i hi
theorem Agree.fit (h:Agree m N t u) (hu:Simp.Fit m N u):Simp.Fit m N t:=by
 refine ⟨fun i hi=>by rw [h.B i hi]; exact hu.lt i hi,fun i k hi hk=>?_,fun k hk=>?_⟩
 ·rw [h.B k hk,h.T i _ hi (by have:=hu.lt k hk; omega)]; exact hu.unit i k hi hk
 ·rw [h.B k hk,h.c _ (by have:=hu.lt k hk; omega)]; exact hu.free k hk
theorem Anx {L' K:Nat} {R:Nat->Nat->Rat} {b:Nat->Rat} (Rn:Simp.Run m (L+m) L' K) (ha:Agree m (L+m) (Rn.t 0) (Simp.first m L R b)) (hL:L<=L')
  (hend:(∀ j,j<L'->0<=(Rn.t K).c j)\/∃ s,s<L'/\(Rn.t K).c s<0/\∀ i,i<m->(Rn.t K).T i s<=0) :
  (Rn.t K).c (L+m)=0↔∃ x:Nat->Rat,(∀ j,j<L->0<=x j)/\∀ i,i<m->Simp.sum L (fun j=>R i j*x j)=b i:=by
 have hf:=Rn.fits K (Cc _);have hr:=Rn.rights K (Cc _);have hk:∀ x,Simp.Ker m (L+m) (Rn.t K) x↔Simp.Ker m (L+m) (Simp.first m L R b) x:=fun x=>(Rn.ker (Co _) (Cc _) x).trans (ha.ker x);have hc:∀ x,Simp.Ker m (L+m) (Simp.first m L R b) x->Simp.dot (L+m) (Rn.t K).c x=Simp.dot (L+m) (Simp.first m L R b).c x:=fun x hx=>by
  rw [Rn.cost (Co _) (Cc _) ((ha.ker x).2 hx),ha.dotC]
 refine Simp.phase hf hr hk hc ?_;rcases hend with h|⟨s,hs,hn,hp⟩
 ·exact fun j hj=>h j aA
 ·exfalso;have hLN:=Rn.LN;obtain ⟨x,hx,hlt⟩:=Simp.least_none (L:=L+m) (f:=(Rn.t K).c) hf (Cc _) hr (fun i hi hB=>by have:=hf.lt i hi; omega) aA hn hp (fun i hi hB=>by have:=hf.lt i hi; omega) (fun _ _=>rfl) 0;have hkx:=(hk x).1 hx.sol.ker;rw [hc x hkx,Simp.first_cost hkx] at hlt;have:=Simp.sum_nonneg (f:=fun i=>x (L+i)) (n:=m) fun i hi=>hx.sol.pos _ aA;grind
end
theorem Aah {l:List RowT} {i:Nat} (hi:i<l.length) (he:(rwA l i).2.2=false):neqs (l.take i)<neqs l:=by
 have h1:=Ez (Yw (d:=([],0,true)) hi);have h2:l=l.take (i+1)++l.drop (i+1):=(Mh _ _).symm;have h3:neqs l=neqs (l.take (i+1))+neqs (l.drop (i+1)):=by rw [<- Hj,<- h2]
 have p7:(at_ ([],0,true) l i:RowT).2.2=false:=he;rw [h1,Hj,neqs,neqs,p7] at h3;simp at h3;omega
theorem Aj4 {l:List RowT} {i k:Nat} (h:i<=k):neqs (l.take i)<=neqs (l.take k):=by
 have h2:l.take k=(l.take k).take i++(l.take k).drop i:=(Mh _ _).symm;rw [h2,Hj,iV,Nat.min_eq_left h];omega
theorem Anf {l:List RowT} {i k:Nat} (hi:i<l.length) (hk:k<l.length) (h1:(rwA l i).2.2=false) (h2:(rwA l k).2.2=false) (h:neqs (l.take i)=neqs (l.take k)):i=k:=by
 have key:∀ i k,i<l.length->(rwA l i).2.2=false->i<k->neqs (l.take i)<neqs (l.take k):=fun i k hi he nq=>by
  have s1:=Ez (Yw (d:=([],0,true)) hi);have h3:neqs (l.take (i+1))=neqs (l.take i)+1:=by
   have p7:(at_ ([],0,true) l i:RowT).2.2=false:=he;rw [s1,Hj,neqs,neqs,p7]; simp
  have:=Aj4 (l:=l) (show i+1<=k by omega);omega
 rcases Oh i k with h'|h'|h'
 ·have:=key i k hi h1 h'; omega
 ·exact h'
 ·have:=key k i hk h2 h'; omega
section
variable {vars:List ByteArray} {l:List RowT}
theorem Pu {real W i j:Nat} (hi:i<l.length):rowX vars real W l i j=rowR vars real W i (2*vars.length+neqs (l.take i)) (rwA l i) j:=by
 unfold rowX;rw [Yw (d:=([],0,true)) hi]; rfl
theorem Rx {G:Q->Prop} {t:Tb} (hr:∀ r ∈ l,G5 vars r) (h:BInv G vars (2*vars.length+neqs l) (2*vars.length+neqs l+l.length+1) l t) :
  Agree l.length (2*vars.length+neqs l+l.length) (tabV t) (Simp.first l.length (2*vars.length+neqs l) (rowX vars (2*vars.length+neqs l) (2*vars.length+neqs l+l.length+1) l) fun i=>rowX vars (2*vars.length+neqs l) (2*vars.length+neqs l+l.length+1) l i (2*vars.length+neqs l+l.length)):=by
 refine ⟨fun i j hi hj=>?_,fun j hj=>?_,fun i hi=>?_⟩
 ·show qv (at_ q0 (B7 t i) j)=if j<2*vars.length+neqs l then _ else if j<2*vars.length+neqs l+l.length then (if j=2*vars.length+neqs l+i then 1 else 0) else _
  rw [h.vals i hi];split
  ·rfl
  ·rename_i h1;have ho:=hr _ (Hr (d:=([],0,true)) hi);split
   ·rename_i h2;rw [Pu hi];unfold rowR;rw [if_neg aA];split
    ·rfl
    ·rw [if_neg (fun h'=>by have:=Aah hi h'.1; omega)];exact Ri ho.mem aA
   ·have:j=2*vars.length+neqs l+l.length:=aA
    rw [this]
 ·show qv (at_ q0 t.cost j)=if j<2*vars.length+neqs l then _ else if j<2*vars.length+neqs l+l.length then 0 else _
  rw [h.costs];split
  ·split
   ·rfl
   ·rw [if_neg aA];have:j=2*vars.length+neqs l+l.length:=aA
    rw [this]
  ·rw [if_neg aA,if_pos aA]
 ·exact h.bas i hi
theorem Apq (hr:∀ r ∈ l,G5 vars r):Simp.Cols (sysY vars l) (2*vars.length+neqs l) (fun i=>sgR (rwA l i)) (fun i=>2*vars.length+neqs (l.take i)) (rowX vars (2*vars.length+neqs l) (2*vars.length+neqs l+l.length+1) l) fun i=>rowX vars (2*vars.length+neqs l) (2*vars.length+neqs l+l.length+1) l i (2*vars.length+neqs l+l.length):=by
 have ho:∀ i,i<l.length->G5 vars (rwA l i):=fun i hi=>hr _ (Hr (d:=([],0,true)) hi);refine ⟨fun i hi=>?_,Om _ _,fun i k hi hk=>?_,fun i k hi hk=>?_,fun i j hi h1 h2=>?_,fun i hi he=>?_,fun i k hi hk h1 h2 h3=>?_,fun i hi=>?_⟩
 ·unfold sgR; split <;> grind
 ·have y6:k<vars.length:=hk;rw [Pu hi];unfold rowR;rw [if_neg aA,if_neg aA,if_neg (fun h'=>aA)];exact (Nc (ho i hi).dis k).1
 ·have y6:k<vars.length:=hk;rw [Pu hi];unfold rowR;rw [if_neg aA,if_neg aA,if_neg (fun h'=>aA)];exact (Nc (ho i hi).dis k).2
 ·have yb:2*vars.length<=j:=h1;rw [Pu hi];unfold rowR;rw [if_neg aA,if_neg aA];show _=if (rwA l i).2.2=false/\j=2*vars.length+neqs (l.take i) then _ else 0
  split
  ·rfl
  ·exact Ri (ho i hi).mem yb
 ·have:=Aah hi he;exact ⟨Om _ _,aA⟩
 ·exact Anf hi hk h1 h2 aA
 ·rw [Pu hi];unfold rowR;rw [if_pos aA]; rfl
theorem Aas {i:Nat} (hi:i<l.length):0<=rowX vars (2*vars.length+neqs l) (2*vars.length+neqs l+l.length+1) l i (2*vars.length+neqs l+l.length):=by
 rw [Pu hi];unfold rowR;rw [if_pos aA];unfold sgR;split
 ·rename_i h;have:(0:Rat)<(((rwA l i).2.1:Int):Rat):=fZ.2 h;grind
 ·rename_i h;have:¬ (0:Rat)<(((rwA l i).2.1:Int):Rat):=fun h'=>h (fZ.1 h');grind
variable {F:Fld} {G:Q->Prop}
theorem BInv.tok {real W N:Nat} {t:Tb} (h:BInv G vars real W l t) (hW:W=N+1):TOk G l.length N t:=⟨h.nr,h.nb,by rw [h.nc,hW],fun r hr=>by rw [h.rowW r hr,hW],h.okr,h.okc⟩
theorem Abg:(Bq F l vars false).real=2*vars.length+neqs l:=Rb.1
theorem Ah6 {t:Tb} (hr:∀ r ∈ l,G5 vars r) (h:BInv G vars (2*vars.length+neqs l) (2*vars.length+neqs l+l.length+1) l t):∃ R:Simp.Run l.length (2*vars.length+neqs l+l.length) (2*vars.length+neqs l) 0,R.t 0=tabV t:=by
 have ha:=Rx hr h;exact ⟨Simp.Run.none (ha.fit (Simp.first_fit _ _ _ _)) (Om _ _) (fun i hi=>by
  rw [ha.T i _ hi aA];show 0<=if 2*vars.length+neqs l+l.length<2*vars.length+neqs l then _ else if 2*vars.length+neqs l+l.length<2*vars.length+neqs l+l.length then _ else _
  rw [if_neg aA,if_neg aA];exact Aas hi),rfl⟩
theorem Ah5 (hE:F.Exact G) (hr:∀ r ∈ l,G5 vars r) (hb0:F.stop=true\/(Bq F l vars false).fl=false) (hs:Safe F G l.length (2*vars.length+neqs l+l.length) (2*vars.length+neqs l) (tabV (Bq F l vars false))) {n:Nat} (hn:(2*vars.length+neqs l+l.length) ^ l.length+1<=n) :
  ∃ b t',H2 F n (Bq F l vars false)=some (b,t')/\((F.stop=true/\t'.fl=true)\/(t'.fl=false/\TOk G l.length (2*vars.length+neqs l+l.length) t'/\∃ K,∃ R:Simp.Run l.length (2*vars.length+neqs l+l.length) (2*vars.length+neqs l) K,R.t 0=tabV (Bq F l vars false)/\R.t K=tabV t' /\
   Agree l.length (2*vars.length+neqs l+l.length) (R.t 0) (Simp.first l.length (2*vars.length+neqs l) (rowX vars (2*vars.length+neqs l) (2*vars.length+neqs l+l.length+1) l) fun i=>rowX vars (2*vars.length+neqs l) (2*vars.length+neqs l+l.length+1) l i (2*vars.length+neqs l+l.length)) /\
   ((∀ j,j<2*vars.length+neqs l->0<=(tabV t').c j)\/∃ s,s<2*vars.length+neqs l/\(tabV t').c s<0/\∀ i,i<l.length->(tabV t').T i s<=0))):=by
 cases hf:(Bq F l vars false).fl with
 | true =>
  rcases hb0 with ah|h
  ·obtain ⟨n',rfl⟩:∃ n',n=n'+1:=⟨n - 1,aA⟩;exact ⟨_,_,Vd ah hf,.inl ⟨ah,hf⟩⟩
  ·rw [hf] at h; cases h
 | false =>
  have hb:=Yz hE hr hf;obtain ⟨R,h0⟩:=Ah6 hr hb;obtain ⟨b,t',h1,h2⟩:=Adk hE hs n R h0 h0 (hb.tok rfl) Abg hf aA;refine ⟨b,t',h1,?_⟩;rcases h2 with h2|⟨h3,h4,K,R',h5,h6,h7,h8⟩
  ·exact .inl h2
  ·refine .inr ⟨h3,h4,K,R',h5,h6,by rw [h5]; exact Rx hr hb,?_⟩;cases b with
   | true=>exact .inl (h7 rfl)
   | false=>exact .inr (h8 rfl)
theorem Ai3 (hE:F.Exact G) {m N:Nat} {t:Tb} (h:TOk G m N t):J3 t=true↔(tabV t).c N=0:=by
 have g:=h.okc _ (Hr (d:=q0) (k:=N) (l:=t.cost) (by rw [h.cost]; omega));unfold J3;rw [h.cost,iY,beq_iff_eq,N8 (hE.pos _ g)]; rfl
theorem Agd (hE:F.Exact G) (hr:∀ r ∈ l,G5 vars r) {t':Tb} {K:Nat} (ht:TOk G l.length (2*vars.length+neqs l+l.length) t') (R:Simp.Run l.length (2*vars.length+neqs l+l.length) (2*vars.length+neqs l) K) (hK:R.t K=tabV t')
  (ha:Agree l.length (2*vars.length+neqs l+l.length) (R.t 0) (Simp.first l.length (2*vars.length+neqs l) (rowX vars (2*vars.length+neqs l) (2*vars.length+neqs l+l.length+1) l) fun i=>rowX vars (2*vars.length+neqs l) (2*vars.length+neqs l+l.length+1) l i (2*vars.length+neqs l+l.length)))
  (hend:(∀ j,j<2*vars.length+neqs l->0<=(tabV t').c j)\/∃ s,s<2*vars.length+neqs l/\(tabV t').c s<0/\∀ i,i<l.length->(tabV t').T i s<=0):J3 t'=true↔∃ v,Sat v l:=by
 rw [Ai3 hE ht,<- Aqu hr,<- (Apq hr).solve,<- hK];rw [<- hK] at hend;exact Anx R ha (Cc _) hend
end
def IncC (cs:List (ByteArray × Int)):Prop:=Inc (cs.map (·.1))
theorem Aoo:∀ {n:Int} {p:Option ByteArray} {cs:List (ByteArray × Int)},A8 n p cs=0->inB n=true/\∀ c ∈ cs,inB c.2=true
 | n,p,[],h=>by
  unfold A8 at h;split at h
  ·rename_i h1; exact ⟨h1,fun c hc=>by simp at hc⟩
  ·cases h
 | n,p,c :: cs,h=>by
  unfold A8 at h;split at h
  ·cases h
  ·split at h
   ·cases h
   ·rename_i h1;split at h
    ·cases h
    ·obtain ⟨a,b⟩:=Aoo h;refine ⟨a,fun x hx=>?_⟩;rcases Cn.1 hx with rfl|hx
     ·simp at h1; exact h1.2
     ·exact b x hx
theorem Ajj {n:Int} (h:inB n=true):i64 n:=by unfold inB at h; simp at h; unfold i64; omega
theorem Adz:∀ {l:List RowT},D7 l=0->∀ r ∈ l,i64 r.2.1/\∀ c ∈ r.1,i64 c.2
 | [],_=>fun r hr=>by simp at hr
 | r :: l,h=>by
  unfold D7 at h;by_cases h0:B5 r.1 r.2.1=0
  ·rw [h0] at h;simp only [bne_self_eq_false,C8,if_false] at h;intro x hx;rcases Cn.1 hx with rfl|hx
   ·unfold B5 at h0;split at h0
    ·cases h0
    ·obtain ⟨a,b⟩:=Aoo h0;exact ⟨Ajj a,fun c hc=>Ajj (b c hc)⟩
   ·exact Adz h x hx
  ·exact Ya1q
theorem Aif:∀ {n:Int} {p:Option ByteArray} {cs:List (ByteArray × Int)},A8 n p cs=0->IncC cs/\∀ c ∈ cs,∀ b,p=some b->nm b<nm c.1
 | n,p,[],h=>⟨jB.nil,fun c hc=>by simp at hc⟩
 | n,p,c :: cs,h=>by
  unfold A8 at h;split at h
  ·cases h
  ·split at h
   ·cases h
   ·split at h
    ·cases h
    ·rename_i h3;obtain ⟨a,b⟩:=Aif h;have hc:∀ x ∈ cs,nm c.1<nm x.1:=fun x hx=>b x hx c.1 rfl;refine ⟨F0.2 ⟨fun y hy=>?_,a⟩,?_⟩
     ·obtain ⟨x,hx,rfl⟩:=F9.1 hy; exact hc x hx
     ·intro x hx d hd;subst hd;have nw:nm d<nm c.1:=by
       simp only [Ja,F8,not_or,Bool.not_eq_true] at h3;obtain ⟨e1,e2⟩:=h3;rw [Vw] at e1;rw [Kj] at e2;rcases Xg d c.1 with h|h|h
       ·exact h
       ·exact absurd h.symm (by simpa using e2)
       ·exact absurd h (by simpa using e1)
      rcases Cn.1 hx with rfl|hx
      ·exact nw
      ·exact List.lt_trans nw (hc x hx)
theorem Aic {cs:List (ByteArray × Int)} {n:Int} (h:B5 cs n=0):IncC cs:=by
 unfold B5 at h;split at h
 ·cases h
 ·exact (Aif h).1
theorem Aig:∀ {n:Int} {p:Option ByteArray} {cs:List (ByteArray × Int)},A8 n p cs=0->n.natAbs<=1000000000000/\∀ c ∈ cs,c.2.natAbs<=1000000000000/\c.2≠0
 | n,p,[],h=>by
  unfold A8 at h;split at h
  ·rename_i h1;unfold inB at h1;simp at h1;exact ⟨aA,fun c hc=>by simp at hc⟩
  ·cases h
 | n,p,c :: cs,h=>by
  unfold A8 at h;split at h
  ·cases h
  ·split at h
   ·cases h
   ·rename_i h1;split at h
    ·cases h
    ·obtain ⟨a,b⟩:=Aig h;refine ⟨a,fun x hx=>?_⟩;rcases Cn.1 hx with rfl|hx
     ·unfold inB at h1;simp at h1;exact ⟨aA,h1.1⟩
     ·exact b x hx
theorem Y6 {cs:List (ByteArray × Int)} {n:Int} (h:B5 cs n=0):n.natAbs<=1000000000000/\∀ c ∈ cs,c.2.natAbs<=1000000000000/\c.2≠0:=by
 unfold B5 at h;split at h
 ·cases h
 ·exact Aig h
theorem Ry:∀ {l:List RowT},D7 l=0->∀ r ∈ l,B5 r.1 r.2.1=0
 | [],_=>fun r hr=>by simp at hr
 | r :: l,h=>by
  unfold D7 at h;by_cases h0:B5 r.1 r.2.1=0
  ·rw [h0] at h;simp only [bne_self_eq_false,C8,if_false] at h;intro x hx;rcases Cn.1 hx with rfl|hx
   ·exact h0
   ·exact Ry h x hx
  ·exact Ya1q
end
section
open Go Tryz
open Go.Proofs.Tryz renaming func91->ga2,ntmps91->ga3,results91->ga4
open Go.Proofs.YtcandeobhlfkbaaGreat renaming ceQ->ga0,Av->ga1,Bs->ga5,A0->ga6
set_option maxRecDepth 100000
namespace QQ
abbrev ua0:Nat:=84
abbrev ua1:Nat:=91
abbrev ua2:Nat:=2
abbrev ua3:Nat:=1
abbrev ua4:Nat:=4
end QQ
set_option maxHeartbeats 4000000
set_option maxRecDepth 100000
namespace QQ
def Aod (S:List Ent) (tk:List Nat) (ia ea iq eq:Nat) (l:List Q) (fl:Bool) (r:Rs):Prop :=
 ∃ S' k',r=(.tup [],S',tk,k')/\S'.length=S.length/\entAt S' ia ea=some (flat ceQ l)/\FAq S' iq eq fl/\∀ j,j≠ia->j≠iq->nth S' j=nth S j
end QQ
section
variable (S:List Ent) (tk:List Nat) (k iq eq:Nat) (fl:Bool)
abbrev At0 (p:Prop:=by exact ∀ (S:List Ent)(tk:List Nat)(k iq eq:Nat)(fl:Bool)(it et ia ea ij ej W c:Nat)(rest:List AV)(a row:List Q)(ht:entAt S it et=some (.ifc ua0 (rcvQ iq eq) :: rest))(hq:FAq S iq eq fl)(ha:entAt S ia ea=some (flat ga0 a))(hr:entAt S ij ej=some (flat ga0 row))(la:a.length=W)(lr:row.length=W)(hc:c<W)(hWb:W<=1000000)(oa:okL qF a)(orr:okL qF row)(ne1:ia≠ij)(ne2:ia≠it)(ne3:ia≠iq)(ne4:iq≠it)(ne5:iq≠ij),∃ r,cL prog ua1 [.ref it et 0,.sref ia ea 0 W ua2,.sref ij ej 0 W ua2,.int c] S tk k=some r/\Aod S tk ia ea iq eq (lessT qF a row c).1 (fl || (lessT qF a row c).2) r):=p
theorem Ma0 {p:Prop} (h:p:=by
 intro S tk k iq eq fl it et ia ea ij ej W c rest a row ht hq ha hr la lr hc hWb oa orr ne1 ne2 ne3 ne4 ne5;obtain ⟨Φ,hΦ⟩:∃ Φ,Φ=Aod S tk ia ea iq eq (lessT qF a row c).1 (fl || (lessT qF a row c).2):=⟨_,rfl⟩;rw [<- hΦ];obtain ⟨b,hb⟩:=Af (show c<a.length by omega);have ob:qF.ok b:=oa b (by rw [Ae] at hb; exact Ik hb);have xh:=Aw ga1 hb;have hlt:lessT qF a row c=if sgn b=0 then (a,false) else lessL qF b a row:=by unfold lessT; rw [hb]
 have hs:=Acm S tk k iq eq fl b ob hq;refine opG ga2 ga3 ?_;by_cases h0:sgn b=0
 ·have d1:(sgn b == 0)=true:=aX
  simp (maxSteps:=10^6)+contextual(disch:=try exact dqd)only[evg1,simprocAttr,Cd,Cb,Ce,ga4,ht,ha,hc,xh,hs,d1,Eu,xfs,puQ];rw [hlt,if_pos h0] at hΦ;rw [hΦ];exact ⟨S,_,rfl,rfl,ha,by rw [Fv]; exact hq,fun j _ _=>rfl⟩
 have d1:(sgn b == 0)=false:=aX
 rw [hlt,if_neg h0] at hΦ;simp (maxSteps:=10^6)+contextual(disch:=try exact dqd)only[evg1,simprocAttr,Cd,Cb,Ce,ga4,ht,ha,hc,xh,hs,d1,Eu,xfs,puQ,ga1,ga5,ovQ];refine Ga (P:=prog) (fun x st=>st.T.length=70/\(lessL qF b a row=(x.2.2.1++(lessL qF b x.2.2.2.1 x.2.2.2.2.1).1,x.2.2.2.2.2 || (lessL qF b x.2.2.2.1 x.2.2.2.2.1).2))/\(x.2.2.1.length+x.2.2.2.1.length=W)/\(x.2.2.2.1.length=x.2.2.2.2.1.length)/\(∃ pr,row=pr++x.2.2.2.2.1/\pr.length=x.2.2.1.length)/\(x.1.length=S.length)/\(entAt x.1 ia ea=some (flat ga0 (x.2.2.1++x.2.2.2.1)))/\(FAq x.1 iq eq (fl || x.2.2.2.2.2))/\(∀ j,j≠ia->j≠iq->nth x.1 j=nth S j)/\(okL qF x.2.2.2.1)/\(okL qF x.2.2.2.2.1)/\getT st.T 0=.ref it et 0/\getT st.T 1=.sref ia ea 0 W ua2/\getT st.T 2=.sref ij ej 0 W ua2/\getT st.T 8=.ref S.length (k+ua3) 0/\getT st.T 27=.int (W:Nat)/\getT st.T 28=.int (x.2.2.1.length:Nat)/\st.S=x.1++[⟨k+ua3,ga0 b⟩]/\st.tk=tk/\st.n=x.2.1) (fun x=>x.2.2.2.2.1.length) (S,(k+ua3+1),([]:List Q),a,row,false) ?_ ?_;case refine_2=>exact ⟨rfl,by simp,by simpa using la,la.trans lr.symm,⟨[],rfl,rfl⟩,rfl,ha,by rw [Fv]; exact hq,fun j _ _=>rfl,oa,orr,rfl,rfl,rfl,rfl,rfl,rfl,rfl,rfl,rfl⟩
 rintro ⟨S1,n1,p,u,rs,fp⟩ ⟨T,S',tk',n'⟩ ⟨hl,hR,hW,hu,bo,cj,he,hf,hj,ou,ors,e0,e1,e2,e8,e27,e28,eS,eT,eN⟩ IH;simp only at hR hW hu bo cj he hf hj ou ors e0 e1 e2 e8 e27 e28 eS eT eN;subst eS eT eN;obtain ⟨g,hg,hT⟩:=Au hl;rw [hg] at e0 e1 e2 e8 e27 e28;subst hT;clear hg hl;by_cases ca:p.length<W
 ·have c1:decide ((p.length:Int)<(W:Int))=true:=cH
  obtain ⟨a0,u,rfl⟩:∃ a0 u',u=a0 :: u':=by
   cases u with
   | nil=>simp at hW; omega
   | cons x u=>exact ⟨x,u,rfl⟩
  obtain ⟨r0,rs,rfl⟩:∃ r0 rs',rs=r0 :: rs':=by
   cases rs with
   | nil=>simp at hu
   | cons x u=>exact ⟨x,u,rfl⟩
  obtain ⟨pr,j2,l9⟩:=bo;have oa0:=ou a0 (by simp);have or0:=ors r0 (by simp);have vf:nth row p.length=some r0:=by rw [j2,<- l9]; exact Ek
  have bw:=Aw ga1 vf;have sm:=Aw (ce:=ga0) ga1 (Ek (p:=p) (u:=u) (x:=a0));obtain ⟨E,hE⟩:∃ E:Ent,E=⟨k+ua3,ga0 b⟩:=⟨_,rfl⟩;have hbT:entAt (S1++[E]) S.length (k+ua3)=some (ga0 b):=by rw [hE]; exact Al cj
  rw [<- hE];have cl:entAt S1 it et=some (.ifc ua0 (rcvQ iq eq) :: rest):=by rw [Aa (hj it ne2.symm ne4.symm)]; exact ht
  have bl:entAt S1 ij ej=some (flat ga0 row):=by rw [Aa (hj ij ne1.symm ne5.symm)]; exact hr
  have htT:entAt (S1++[E]) it et=some (.ifc ua0 (rcvQ iq eq) :: rest):=Ac cl;have hrT:entAt (S1++[E]) ij ej=some (flat ga0 row):=Ac bl;have heT:entAt (S1++[E]) ia ea=some (flat ga0 (p++a0 :: u)):=Ac he;have hfT:=hf.app (L:=[E]);have hs2:=Acm (S1++[E]) tk' n' iq eq (fl || fp) r0 or0 hfT;have a8:=A9 he;have vg:rs.length<(r0 :: rs).length:=by simp
  have hw:Cf.wrap ((p.length:Int)+1)=(((p++[a0]).length:Nat):Int):=bS
  by_cases hz:sgn r0=0
  ·have c2:(sgn r0 != 0)=false:=bN
   simp (maxSteps:=10^6)+contextual(disch:=try exact dqd)only[evg1,simprocAttr,Cd,Cb,Ce,ga4,e0,e1,e2,e8,e27,e28,c1,c2,hw,htT,hrT,bw,ca,hs2,Eu,xfs,puQ];have ah:Jr qF b a0 r0=(a0,false):=by unfold Jr; rw [if_pos hz]
   exact IH (S1,n'+ua3,p++[a0],u,rs,fp) _ aF ⟨rfl,by rw [hR]; simp only [lessL,ah,Fa,Cr,Cw,I1],by show (p++[a0]).length+u.length=W; simp only [Cs,Ck,Cu] at hW ⊢; omega,dO,⟨pr++[r0],by rw [j2]; simp,by simp [l9]⟩,cj,bU,hf,hj,fun q hq=>ou q bV,fun q hq=>ors q bV,aQ,aQ,aQ,aQ,aQ,aQ,by simp only [hE],rfl,rfl⟩
  ·have c2:(sgn r0 != 0)=true:=bN
   obtain ⟨x,hx⟩:∃ x,x=qF.times b r0:=⟨_,rfl⟩;obtain ⟨y,hy⟩:∃ y,y=qF.minus a0 x.1:=⟨_,rfl⟩;have qg:Cf.wrap ((p.length:Int)+1)=(((p++[y.1]).length:Nat):Int):=bS
   have ox:qF.ok x.1:=by rw [hx]; exact Dh.times _ _ ob or0
   have oy:qF.ok y.1:=by rw [hy]; exact Dh.minus _ _ oa0 ox
   have cu:=Ae4 (S1++[E]) tk' (n'+ua3) iq eq (fl || fp) b r0 ob or0 hfT;have hg1:=El (c:=x.2) hfT;rw [<- hx] at cu;rw [Hd hf] at cu hg1;obtain ⟨S2,a7⟩:∃ S2,S2=flS S1 iq eq x.2:=⟨_,rfl⟩;rw [<- a7] at cu hg1;have bm:FAq S2 iq eq ((fl || fp) || x.2):=by rw [a7]; exact hf.fS
   have ef:=Mg (S2++[E]) tk' (n'+ua3+ua4) iq eq ((fl || fp) || x.2) a0 x.1 oa0 ox (bm.app (L:=[E]));have hg2:=El (c:=y.2) (bm.app (L:=[E]));rw [<- hy] at ef;rw [Hd bm] at ef hg2;obtain ⟨S3,cr⟩:∃ S3,S3=flS S2 iq eq y.2:=⟨_,rfl⟩;rw [<- cr] at ef hg2;have de:FAq S3 iq eq (((fl || fp) || x.2) || y.2):=by rw [cr]; exact bm.fS
   have d7:S3.length=S.length:=by rw [cr,Bj,a7,Bj,cj]
   have b7:∀ j,j≠iq->nth S3 j=nth S1 j:=fun j hj=>by rw [cr,ga6 hj,a7,ga6 hj]
   have oc:entAt S3 ia ea=some (flat ga0 (p++a0 :: u)):=by rw [Aa (b7 ia ne3)]; exact he
   have a0k:entAt (S3++[E]) ia ea=some (flat ga0 (p++a0 :: u)):=Ac oc;have ho:=Bc (ce:=ga0) ga1 (l:=p++a0 :: u) (k:=p.length) (q':=y.1) (by simp);rw [Gu] at ho;have hp3:=fun x=>Dt (L:=[E]) (x:=x) (A9 oc);have jx:∀ x,Oc (S1++[E]).length (put S3 ia x++[E])=put S3 ia x++[E]:=fun x=>Fc (by simp [Ao,d7,cj]);simp (maxSteps:=10^6)+contextual(disch:=try exact dqd)only[evg1,simprocAttr,Cd,Cb,Ce,ga4,e0,e1,e2,e8,e27,e28,c1,c2,jx,qg,htT,hrT,heT,hbT,bw,sm,ca,hs2,cu,ef,hg1,hg2,a0k,ho,hp3,Eu,xfs,puQ,ga1,ga5,tkQ];have ah:Jr qF b a0 r0=(y.1,x.2 || y.2):=by unfold Jr; rw [if_neg hz,hy,hx]
   exact IH (put S3 ia ⟨ea,flat ga0 (p++y.1 :: u)⟩,n'+ua3+ua4+ua4,p++[y.1],u,rs,Cl fp (Cl x.2 y.2)) _ aF ⟨rfl,by rw [hR]; simp only [lessL,ah,Fa,Cr,Cw,Fy],by show (p++[y.1]).length+u.length=W; simp only [Cs,Ck,Cu] at hW ⊢; omega,dO,⟨pr++[r0],by rw [j2]; simp,by simp [l9]⟩,Ao.trans d7,by rw [Ai (A9 oc)]; simp,by have:=de.put (x:=⟨ea,flat ga0 (p++y.1 :: u)⟩) ne3; simpa only [Fy] using this,fun j h1 h2=>by rw [Ad (Oo h1),b7 j h2]; exact hj j h1 h2,fun q hq=>ou q bV,fun q hq=>ors q bV,aQ,aQ,aQ,aQ,aQ,aQ,by simp only [hE],rfl,rfl⟩
 ·have c1:decide ((p.length:Int)<(W:Int))=false:=cH
  have xo:u=[]:=Fh.1 aA;subst xo;simp (maxSteps:=10^6)+contextual(disch:=try exact dqd)only[evg1,simprocAttr,Cd,Cb,Ce,ga4,e0,e1,e2,e8,e27,e28,c1];rw [hΦ,Js cj];simp only [lessL] at hR;rw [hR];exact ⟨S1,n',rfl,cj,he,by rw [Fv]; exact hf,hj⟩):p:=h
namespace QQ
theorem Ask:At0:=Ma0
end QQ
end
end
end Go.Proofs.YtcandeobhlfkbaaGreat
