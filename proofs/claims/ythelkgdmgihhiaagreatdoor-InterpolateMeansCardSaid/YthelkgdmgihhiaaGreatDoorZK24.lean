/- Part 24. -/
import Derived.Test.YthelkgdmgihhiaaGreatDoorZK23
import Derived.RangeFuncKeeps
import Derived.RangeFuncBound
import Derived.RangeFuncLeaves
import Derived.Shelf.Abstract
import Derived.WalkKit
import Derived.OwnWalkIn
import Derived.TacticsInMore
import Derived.LoopIn
import Derived.LoopNIn
namespace Go.Proofs.YthelkgdmgihhiaaGreatDoor
section
open Go Tryz Go.RowKit Go.Shelf
attribute [local go_sem] Oper.semAt_some
theorem roomW (k:Nat):Fence.wide.room k:=room_wide k
theorem RoundIn.any {m m':Nat} {P:Program} {l:Nat} {f:FuncId} {tmps:Array Value} {assign body:Code} {w:World} {R:Ending->World->Prop}
  (h:RoundIn Fence.wide m P l f tmps assign body w R):RoundIn Fence.wide m' P l f tmps assign body w R:=⟨h.1,fun c cs _=>h.2 c cs (roomW _)⟩
theorem YieldAt.any {m:Nat} (m':Nat) {P:Program} {l:Nat} {args:Array Value} {W:World} {R:Ending->World->Prop} (h:YieldAt Fence.wide m P l args W R):YieldAt Fence.wide m' P l args W R:=by
 obtain ⟨fn,tmps,assign,body,hy,hR⟩:=h
 exact ⟨fn,tmps,assign,body,hy,RoundIn.any hR⟩
theorem hdw (k:Nat):(Fence.wide.depth.isSome=true->1<=k):=fun h=>by cases h
def Qz (wp w0:World) (l:Nat) (Jx:Int->World->Prop):Prop :=
 ∀ (W:World) (p:PT) (v:Value),Ai p->Below w0.heap.size w0 W->PV wp p v->YieldAt Fence.wide 3 prog l #[v] W fun e W' =>
  (Bk p=0/\e=.returned (.bool true)/\Below W.heap.size W W')\/(Bk p≠0/\e=.returned (.bool false)/\Jx (Bk p) W')
def Ke (W:World) (Jx:Int->World->Prop) (er:Int) (e:Ending) (W':World):Prop :=
 (er=0/\e=.returned (.bool true)/\Below W.heap.size W W')\/(er≠0/\e=.returned (.bool false)/\Jx er W')
theorem Nu:∀ (ks:List PT) (j:Nat) (k:PT),nth ks j=some k->Dm (ks.take j)=0->Dm ks=if Ba k≠0 then Ba k else Dm (ks.drop (j+1))
 | k0 :: ks,0,k,h,_=>by simp only [nth,Option.some.injEq] at h; subst h; simp [Dm]
 | k0 :: ks,j+1,k,h,h0=>by
  simp only [nth] at h
  simp only [List.take_succ_cons,Dm] at h0
  have h1:Ba k0=0:=by
   by_cases e:Ba k0=0
   ·exact e
   ·rw [if_pos e] at h0; exact h0
  rw [h1] at h0
  simp only [Dm,h1]
  exact Nu ks j k h (by simpa using h0)
 | [],_,_,h,_=>by simp [nth] at h
theorem Ns:∀ (ks:List PT) (j:Nat) (k:PT),nth ks j=some k->Dm (ks.take j)=0->Ba k=0->Dm (ks.take (j+1))=0
 | k0 :: ks,0,k,h,_,h1=>by simp only [nth,Option.some.injEq] at h; subst h; simp [Dm,h1]
 | k0 :: ks,j+1,k,h,h0,h2=>by
  simp only [nth] at h
  simp only [List.take_succ_cons,Dm] at h0
  have h1:Ba k0=0:=by
   by_cases e:Ba k0=0
   ·exact e
   ·rw [if_pos e] at h0; exact h0
  rw [h1] at h0
  simp only [List.take_succ_cons,Dm,h1]
  have:=Ns ks j k h (by simpa using h0) h2
  simpa using this
 | [],_,_,h,_,_=>by simp [nth] at h
set_option maxRecDepth 100000 in
set_option maxHeartbeats 2000000 in
theorem Ac7 {wp w0:World} {l:Nat} {Jx:Int->World->Prop} (hbp:Below wp.heap.size wp w0) (hY:Qz wp w0 l Jx) (o:Int) (s:ByteArray) (n:Int) (ks:List PT)
  (ih:∀ k ∈ ks,∀ (W:World) (v:Value),Below w0.heap.size w0 W->PV wp k v->CallsIn Fence.wide 3 prog 128 #[v,.func (.yield l) #[] #[]] W (Ke W Jx (Ba k)))
  (hnn:Ai (.node o s n ks)) (hks:ks.length<=9223372036854775807) (W:World) (v:Value) (hb:Below w0.heap.size w0 W) (hv:PV wp (.node o s n ks) v) :
  CallsIn Fence.wide 3 prog 128 #[v,.func (.yield l) #[] #[]] W (Ke W Jx (Ba (.node o s n ks))):=by
 obtain ⟨a,cap,rfl,hcap,hk⟩:=Pk hv
 obtain ⟨fn,tmps,assign,body,hy,hR⟩:=hY (W.alloc (.cells #[.int .i64 o,.string s,.int .i64 n,.slice a ks.length cap] 36)) _ _ hnn (hb.alloc hb.size _) hv
 refine callsIn_of_wp func128 rfl trivial ?_ rfl
 simp only [ntmps128,List.size_toArray,List.length_cons,List.length_nil,Nat.reduceAdd,Nat.reduceSub,Array.replicate_succ,Array.replicate_zero,List.push_toArray,List.append_toArray,List.nil_append,List.cons_append]
 gi_wp2_with fail
 refine (RoundIn.any hR).mono ?_
 clear hR
 rintro e W1 (⟨h0,rfl,hb1⟩|⟨h0,rfl,hx⟩)
 case inr =>
  gi_wp2
  go_ret
  refine .inr ⟨?_,rfl,?_⟩
  ·simp only [Ba]; rw [if_pos h0]; exact h0
  ·simp only [Ba]; rw [if_pos h0]; exact hx
 have hW1:Below W.heap.size W W1:=((Below.refl _ W).alloc (Nat.le_refl _) _).trans (hb1.mono (by simp))
 have hbox:W1.heap[W.heap.size]?=some (.cells #[.int .i64 o,.string s,.int .i64 n,.slice a ks.length cap] 36 (0,0)):=by
  rw [hb1.block W.heap.size (by simp)]; exact Aa _ _
 have hc3:W1.cell? ⟨W.heap.size,3,none⟩=some (.slice a ks.length cap):=by simp [World.cell?,hbox]
 clear hbox hy
 gi_wp2_with fail
 gi_loopw [14] (fun p wr=>∃ j:Nat,p=.int .i64 (j:Int)/\j<=ks.length/\Dm (ks.take j)=0/\Below W.heap.size W wr) (fun p wr=>ks.length - (G3 p).toNat)
 case atStart=>exact ⟨0,rfl,Nat.zero_le _,rfl,hW1⟩
 case round =>
  obtain ⟨j,rfl,hj,hf,hbr⟩:=hrel
  by_cases hlt:j<ks.length
  ·obtain ⟨k,hkj⟩:=Af hlt
   obtain ⟨b,off,a2,n2,c2,rfl,hpv,g0,g1,g2,g3,hbl⟩:=hk j k hkj
   have up:∀ {x:Addr} {u:Value},x.block=b->wp.cell? x=some u->wr.cell? x=some u:=fun {x u} hx hu=>by
    have h0:=hbp.size
    have h1:x.block<W.heap.size:=by have:=hb.size; omega
    exact (hbr.cell (p:=x) h1).trans ((hb.cell (p:=x) (by omega)).trans ((hbp.cell (p:=x) (by omega)).trans hu))
   have d0:=up rfl g0
   have d1:=up rfl g1
   have d2:=up rfl g2
   have d3:=up rfl g3
   clear g0 g1 g2 g3 up
   have hji:(j:Int)<(ks.length:Int):=by omega
   have hj0:(0:Int)<=(j:Int):=by omega
   have hw:IntKind.i64.wrap ((j:Int)+1)=((j+1:Nat):Int):=by rw [Go.IntWalk.i64_in _ (by omega)]; omega
   have hmem:k ∈ ks:=by rw [Ab] at hkj; exact List.mem_of_getElem? hkj
   have hcall:=ih k hmem (wr.alloc (.cells #[.int .i64 k.op,.string k.name,.int .i64 k.n,.slice a2 n2 c2] 36)) _ ((hb.trans (hbr.mono hb.size)).alloc (Nat.le_trans hb.size hbr.size) _) hpv
   gi_wp2_with fail
   refine ⟨trivial,(callsIn_wide.2 (callsIn_wide.1 hcall)).mono ?_⟩
   rintro e W2 (⟨q0,rfl,hb2⟩|⟨q0,rfl,hx⟩)
   ·gi_wp2_with fail
    go_roundw
    case rel=>exact ⟨j+1,rfl,hlt,Ns ks j k hkj hf q0,hbr.trans ((((Below.refl _ wr).alloc (Nat.le_refl _) _).trans (hb2.mono (by simp))).mono hbr.size)⟩
    case measure=>simp [G3]; omega
   ·gi_wp2_with fail
    go_ret
    have hfl:=Nu ks j k hkj hf
    rw [if_pos q0] at hfl
    have hfo:Ba (.node o s n ks)=Ba k:=by simp only [Ba]; rw [if_neg (by simpa using h0),hfl]
    refine .inr ⟨?_,rfl,?_⟩
    ·rw [hfo]; exact q0
    ·rw [hfo]; exact hx
  ·have hji:¬ (j:Int)<(ks.length:Int):=by omega
   gi_wp2_with fail
   go_ret
   have he:j=ks.length:=by omega
   subst he
   rw [List.take_length] at hf
   refine .inl ⟨?_,rfl,hbr⟩
   simp only [Ba]; rw [if_neg (by simpa using h0)]; exact hf
mutual
theorem Tm {wp w0:World} {l:Nat} {Jx:Int->World->Prop} (hbp:Below wp.heap.size wp w0) (hY:Qz wp w0 l Jx):∀ (p:PT),Ai p->∀ (W:World) (v:Value),Below w0.heap.size w0 W->PV wp p v ->
  CallsIn Fence.wide 3 prog 128 #[v,.func (.yield l) #[] #[]] W (Ke W Jx (Ba p))
 | .node o s n ks,hn=>Ac7 hbp hY o s n ks (Pf hbp hY ks (by simp only [Ai] at hn; exact hn.2)) hn (by simp only [Ai] at hn; exact hn.1)
theorem Pf {wp w0:World} {l:Nat} {Jx:Int->World->Prop} (hbp:Below wp.heap.size wp w0) (hY:Qz wp w0 l Jx):∀ (ks:List PT),Bd ks->∀ k ∈ ks,∀ (W:World) (v:Value),Below w0.heap.size w0 W->PV wp k v ->
  CallsIn Fence.wide 3 prog 128 #[v,.func (.yield l) #[] #[]] W (Ke W Jx (Ba k))
 | [],_=>fun k hk=>by simp at hk
 | k0 :: ks,hn=>fun k hk=>by
  simp only [Bd] at hn
  rcases List.mem_cons.1 hk with e|hk
  ·rw [e]; exact Tm hbp hY k0 hn.1
  ·exact Pf hbp hY ks hn.2 k hk
end
set_option maxRecDepth 100000 in
set_option maxHeartbeats 2000000 in
theorem Wt {wp w0:World} {l:Nat} {Jx:Int->World->Prop} (hbp:Below wp.heap.size wp w0) (hY:Qz wp w0 l Jx) (p:PT) (hn:Ai p) (W:World) (x0 x1 x2 x3:Value) (hb:Below w0.heap.size w0 W) (hv:PV wp p (.agg #[x0,x1,x2,x3])) (Bt:Nat)
  (c0:W.cell? ⟨Bt,0,none⟩=some x0) (c1:W.cell? ⟨Bt,1,none⟩=some x1) (c2:W.cell? ⟨Bt,2,none⟩=some x2) (c3:W.cell? ⟨Bt,3,none⟩=some x3) :
  CallsIn Fence.wide 3 prog 127 #[.func (.yield l) #[] #[],.pointer (some ⟨Bt,0,none⟩)] W fun e W'=>(∃ v,e=.returned v) /\
   ((Ba p=0/\Below W.heap.size W W')\/(Ba p≠0/\Jx (Ba p) W')):=by
 have hp:=Tm hbp hY p hn W _ hb hv
 refine callsIn_of_wp func127 rfl trivial ?_ rfl
 simp only [ntmps127,List.size_toArray,List.length_cons,List.length_nil,Nat.reduceAdd,Nat.reduceSub,Array.replicate_succ,Array.replicate_zero,List.push_toArray,List.append_toArray,List.nil_append,List.cons_append]
 gi_wp2_with fail
 refine ⟨trivial,(callsIn_wide.2 (callsIn_wide.1 hp)).mono ?_⟩
 rintro e W2 (⟨q0,rfl,hb2⟩|⟨q0,rfl,hx⟩)
 ·gi_wp2_with fail
  go_end0
  exact ⟨⟨_,rfl⟩,.inl ⟨q0,hb2⟩⟩
 ·gi_wp2_with fail
  go_end0
  exact ⟨⟨_,rfl⟩,.inr ⟨q0,hx⟩⟩
set_option maxRecDepth 100000 in
theorem Ys (W:World) (x0 x1 x2 x3:Value) (o1:x0.oneCell'=true) :
  CallsIn Fence.wide 3 prog 86 #[.agg #[x0,x1,x2,x3]] W fun e W'=>e=.returned (.func (.func 127) #[] #[.pointer (some ⟨W.heap.size,0,none⟩)])/\W'=W.alloc (.cells #[x0,x1,x2,x3] 36):=by
 refine callsIn_of_wp func86 rfl trivial ?_ rfl
 simp only [ntmps86,List.size_toArray,List.length_cons,List.length_nil,Nat.reduceAdd,Nat.reduceSub,Array.replicate_succ,Array.replicate_zero,List.push_toArray,List.append_toArray,List.nil_append,List.cons_append]
 gi_wp2_with fail
 go_ret
 exact ⟨rfl,rfl⟩
end
end Go.Proofs.YthelkgdmgihhiaaGreatDoor
