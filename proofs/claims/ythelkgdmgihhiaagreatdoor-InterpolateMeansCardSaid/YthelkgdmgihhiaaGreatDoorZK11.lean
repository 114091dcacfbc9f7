/- Part 11. -/
import Derived.Test.YthelkgdmgihhiaaGreatDoorZK10
import Derived.Lib.Hide
import Derived.WalkKit
import Derived.WalkSpells
import Derived.WalkLawsBesides
import Derived.OwnWalk
import Derived.IntWalk
import Derived.Laws.AppendOwn
import Derived.Lib.OwnBridge
namespace Go.Proofs.YthelkgdmgihhiaaGreatDoor
section
open Go Tryz Go.RowKit
abbrev num (x:Int):Value:=.int .i64 x
def Tab0 (w:World):Prop:=0<w.heap.size
theorem Tab0.below {w w':World} (h:Tab0 w) {n:Nat} (hn:0<n) (hb:Below n w w'):Tab0 w':=by
 have h1:w.heap[0]?=some (w.heap[0]'h):=Array.getElem?_eq_getElem h
 rw [<- hb.block 0 hn] at h1
 exact (Array.getElem?_eq_some_iff.1 h1).1
theorem Tab0.pos {w:World} (h:Tab0 w):0<w.heap.size:=h
def C0 (W:World):Cx:={ w:=W,av:=fun _ _=>False,φ:=fun _=>0,ψ:=fun _=>(0,0,0),S:=[],tk:=[],n:=0 }
theorem Uy {W:World} {b o:Nat} : ¬ (C0 W).Mut b o:=by
 rintro (⟨i,hi,_⟩|⟨i,hi,_⟩)
 ·simp [C0] at hi
 ·simp [C0] at hi
theorem Ux {W:World} {b o:Nat} : ¬ (C0 W).Avoid b o:=by
 rintro (h|h)
 ·exact h
 ·exact Uy h
theorem C0_SR {W:World} : SR (C0 W):=by
 refine ⟨fun i e h=>by simp [C0,nth] at h,fun i j hi=>by simp [C0] at hi,fun i j o hi=>by simp [C0] at hi,fun i j o hi=>by simp [C0] at hi,fun b o h=>absurd h Uy,fun b o h=>?_,fun i o hi=>by simp [C0] at hi,fun g a hg=>?_⟩
 ·exact False.elim h
 ·simp only [Globs.gl,List.not_mem_nil] at hg
theorem Aai {w:World} {A:Nat->Nat->Prop} {b:Nat} : ∀ {l:List Int} {o i:Nat} {x:Int},Ap w A b 1 o (l.map digC)->nth l i=some x->w.cell? ⟨b,o+i,none⟩=some (.int .i64 x)
 | y :: l,o,0,x,h,hx=>by
  simp only [nth,Option.some.injEq] at hx
  subst hx
  simp only [List.map_cons,Ap,digC] at h
  obtain ⟨-,⟨vs,h1,h2⟩,-⟩:=h
  match vs,h1,h2 with
  | [v],h1,h2 =>
   simp only [PRs,PR,and_true] at h2
   rw [<- h2.1]
   exact h1.1
  | [],_,h2=>simp [PRs] at h2
  | _ :: _ :: _,_,h2=>simp [PRs] at h2
 | _ :: l,o,i+1,x,h,hx=>by
  simp only [List.map_cons,Ap] at h
  have:=Aai (i:=i) h.2.2 hx
  rwa [show o+(i+1)=o+1+i by omega]
abbrev RD (w:World) (v:Value) (zs:List Int):Prop:=VR (C0 w) (digA zs) v
theorem RD.below {w w':World} {v:Value} {zs:List Int} (h:RD w v zs) (hb:Below w.heap.size w w'):RD w' v zs:=VR.mono (Le.of_below (C:=C0 w) hb) _ _ h
theorem call0 {f:FuncId} {args:List AV} {r:AV} {vs:Array Value} {w:World} (hcl:∀ S tk k,cL prog f args S tk k=some (r,S,tk,k)) (ht:Tab0 w) (hv:VRs (C0 w) args vs.toList) :
  Calls prog f vs w fun e w'=>∃ v,e=.returned v/\Below w.heap.size w w'/\VR (C0 w') r v:=by
 refine (K8 mixed (hcl [] [] 0) (C:=C0 w) rfl rfl rfl C0_SR hv).mono ?_
 rintro e w' ⟨v,C',rfl,rfl,hle,-,h1,h2,h3,hr⟩
 refine ⟨v,rfl,⟨hle.os,hle.tape,hle.output,hle.size,fun b hb=>hle.keep b hb fun o hm=>Uy hm⟩,?_⟩
 refine VR.mono0 (C:=C') (C':=C0 C'.w) ⟨by rw [h3]; exact Nat.le_refl _,fun b o v' hv' ha=>⟨hv',fun ha'=>?_⟩,fun _ cs _ _ h=>⟨cs,h,rfl⟩,fun id e' he=>(by have he:nth ([]:List Ent) id=some e':=he; cases id <;> cases he),fun id k hk=>(by rw [h2] at hk; cases id <;> cases hk)⟩ _ _ hr
 rcases ha' with h|h
 ·exact ha (.inl (by rw [hle.av]; exact h))
 ·exact absurd h Uy
theorem Hk {w:World} {v:Value} {zs:List Int} (h:RD w v zs):∃ a cap,v=.slice a zs.length cap/\zs.length<=cap/\∀ j x,nth zs j=some x->∃ b o,a=some ⟨b,o,none⟩/\w.cell? ⟨b,o+j,none⟩=some (num x)/\True:=by
 simp only [RD,digA,VR] at h
 obtain ⟨a,len,cap,rfl,h1,h2,-,h4⟩:=h
 have h1:zs.length=len:=by simpa using h1
 subst h1
 refine ⟨a,cap,rfl,h2,fun j x hx=>?_⟩
 rcases h4 with h|⟨b,o,sz,rfl,hr⟩
 ·have:zs=[]:=by simpa using h
  subst this; simp [nth] at hx
 ·have hsz:sz=1:=by
   cases zs with
   | nil=>simp [nth] at hx
   | cons y l=>simp only [List.map_cons,Ap,digC] at hr; exact hr.1.symm
  subst hsz
  exact ⟨b,o,rfl,Aai hr hx,trivial⟩
theorem Ady {w:World} {b o cap:Nat} {zs:List Int} (_hb:True) (hcap:zs.length<=cap) (h:∀ j x,nth zs j=some x->w.cell? ⟨b,o+j,none⟩=some (num x)):RD w (.slice (some ⟨b,o,none⟩) zs.length cap) zs:=by
 have key:∀ (l:List Int) (o:Nat),(∀ j x,nth l j=some x->w.cell? ⟨b,o+j,none⟩=some (num x))->Ap w (C0 w).Avoid b 1 o (l.map digC):=by
  intro l
  induction l with
  | nil=>intro _ _; simp only [List.map_nil,Ap]
  | cons x l ih =>
   intro o h
   simp only [List.map_cons,Ap]
   refine ⟨rfl,⟨[num x],⟨h 0 x rfl,Ux,trivial⟩,by simp [PRs,PR,digC,Value.oneCell']⟩,ih (o+1) fun j y hy=>?_⟩
   have:=h (j+1) y hy
   rwa [show o+(j+1)=o+1+j from by omega] at this
 simp only [RD,digA,VR]
 exact ⟨_,_,_,rfl,by simp,hcap,trivial,.inr ⟨b,o,1,rfl,key zs o h⟩⟩
theorem Ada (w:World) (a:Option Addr) (cap:Nat):RD w (.slice a 0 cap) []:=by
 simp only [RD,digA,List.map_nil,VR]
 exact ⟨a,0,cap,rfl,rfl,Nat.zero_le _,trivial,.inl trivial⟩
abbrev OR (w:World) (base:Nat) (v:Value) (zs:List Int):Prop:=w.ownsRow base 3 1 v zs.length (zs.map num)
theorem OR.rd {w:World} {base:Nat} {v:Value} {zs:List Int} (h:OR w base v zs) (hb:0<base):RD w v zs:=by
 rcases h.2 with ⟨rfl,h0⟩|⟨g,cap,cur,rfl,h1,h2,h3,h4,h5,h6⟩
 ·have:zs=[]:=List.eq_nil_of_length_eq_zero h0
  subst this
  exact Ada w none 0
 ·refine Ady trivial h3 fun j x hx=>?_
  rw [Ab] at hx
  have:(cur.toList.take (zs.length*1))[j]?=some (num x):=by rw [h6,List.getElem?_map,hx]; rfl
  rw [List.getElem?_take] at this
  split at this
  ·simp only [World.cell?,h2,Nat.zero_add]; simpa using this
  ·simp at this
theorem OR.below {w w':World} {base:Nat} {v:Value} {zs:List Int} (h:OR w base v zs) (hb:Below w.heap.size w w'):OR w' base v zs:=by
 refine ⟨h.1,?_⟩
 rcases h.2 with h0|⟨g,cap,cur,rfl,h1,h2,h3⟩
 ·exact .inl h0
 ·exact .inr ⟨g,cap,cur,rfl,h1,A5 hb h2,h3⟩
theorem OR.trim {w:World} {base:Nat} {a:Option Addr} {cap:Nat} {zs:List Int} (h:OR w base (.slice a zs.length cap) zs):OR w base (.slice a (Bo zs).length cap) (Bo zs):=by
 have hl:=Qi zs
 refine ⟨by simp,?_⟩
 rcases h.2 with ⟨h0,h0'⟩|⟨g,cap',cur,hv,h1,h2,h3,h4,h5,h6⟩
 ·have:zs=[]:=List.eq_nil_of_length_eq_zero h0'
  subst this
  cases h0
  exact .inl ⟨rfl,rfl⟩
 ·cases hv
  refine .inr ⟨g,cap,cur,rfl,h1,h2,by omega,h4,h5,?_⟩
  have e:(cur.toList.take (zs.length*1)).take ((Bo zs).length*1)=cur.toList.take ((Bo zs).length*1):=by
   rw [List.take_take]; congr 1; omega
  rw [<- e,h6,<- List.map_take,Nat.mul_one,<- Et]
def lenI:Value->Nat|.slice _ n _=>n|_=>0
set_option maxHeartbeats 2000000 in
set_option maxRecDepth 100000 in
theorem Qj (w:World) (a:Option Addr) (cap:Nat) (zs:List Int) (hlen:zs.length<=1000000) (hcap:zs.length<=cap) (hc:∀ j x,nth zs j=some x->∃ b o,a=some ⟨b,o,none⟩/\w.cell? ⟨b,o+j,none⟩=some (num x)) :
  Calls prog 278 #[.slice a zs.length cap] w fun e w'=>e=.returned (.slice a (Bo zs).length cap)/\w'=w:=by
 have HC:=Lib.hid hc
 have HZ:=Lib.hid (Vt zs)
 clear hc
 generalize hN:zs.length=N at *
 go_enter func278,ntmps278
 go_wp2
 go_loop [0] (fun v=>∃ n:Nat,v=.slice a n cap/\n<=N/\Hid (∀ j,n<=j->∀ x,nth zs j=some x->x=0)) (fun v=>lenI v)
 case atStart=>exact ⟨N,rfl,Nat.le_refl _,HZ⟩
 case round =>
  obtain ⟨n,rfl,hn,hz⟩:=hrel
  cases n with
  | zero =>
   go_wp2
   go_ret
   have ht:=Kc (l:=zs) (n:=0) (Nat.zero_le _) hz.out (.inl rfl)
   rw [ht]
   exact ⟨rfl,rfl⟩
  | succ n =>
   obtain ⟨x,hx⟩:=Af (show n<zs.length by omega)
   obtain ⟨b,o,rfl,hcx⟩:=HC.out n x hx
   have HX:=Lib.hid hx
   clear hx
   have hw:IntKind.i64.wrap (((n+1:Nat):Int) - 1)=(n:Int):=by rw [Ay (by unfold i64; omega)]; omega
   have hg:((n+1:Nat):Int) > 0:=by omega
   have hlt:(n:Int)<((n+1:Nat):Int):=by omega
   by_cases h0:x=0
   ·subst h0
    go_wp2
    exact ⟨⟨n,rfl,by omega,Lib.hid (Zl (n:=n+1) hz.out HX.out rfl)⟩,by simp [lenI]⟩
   ·go_wp2
    go_ret
    have ht:=Kc (l:=zs) (n:=n+1) (by omega) hz.out (.inr ⟨x,HX.out,h0⟩)
    have hl:(zs.take (n+1)).length=n+1:=by simp; omega
    rw [ht,hl]
    exact ⟨rfl,rfl⟩
end
end Go.Proofs.YthelkgdmgihhiaaGreatDoor
