/- Part 12. -/
import Derived.Test.YthelkgdmgihhiaaGreatZM11
import Derived.Lib.Hide
import Derived.WalkKit
import Derived.WalkSpells
import Derived.WalkLawsBesides
import Derived.OwnWalk
import Derived.IntWalk
import Derived.Laws.AppendOwn
import Derived.Lib.OwnBridge
open Array renaming getElem?_eq_some_iff->Ci,getElem?_eq_getElem->Ei
open Go.IntKind renaming i64->Ce
open Go.Lib renaming hid->Cl
open Go.Value renaming oneCell'->fU
open Go.World renaming cell?->It
open List renaming map_cons->Cm,map_nil->Cw,eq_nil_of_length_eq_zero->Fg,getElem?_map->Fw,getElem?_take->Iw,take_take->iP
open Nat renaming le_refl->Cb,zero_le->Cs,zero_add->Fo,mul_one->Ia
open Option.some renaming injEq->A0
namespace Go.Proofs.YthelkgdmgihhiaaGreat
section
open Go Tryz Go.RowKit
set_option maxHeartbeats 2000000
set_option maxRecDepth 100000
abbrev num (x:Int):Value:=.int .i64 x
def Tab0 (w:World):Prop:=0<w.heap.size
theorem Tab0.below {w w':World} (h:Tab0 w) {n:Nat} (hn:0<n) (hb:Below n w w'):Tab0 w':=by
 have h1:w.heap[0]?=some (w.heap[0]'h):=Ei h;rw [<- hb.block 0 hn] at h1;exact (Ci.1 h1).1
theorem Tab0.pos {w:World} (h:Tab0 w):0<w.heap.size:=h
def C0 (W:World):Cx:={ w:=W,av:=fun _ _=>False,φ:=fun _=>0,ψ:=fun _=>(0,0,0),S:=[],tk:=[],n:=0 }
theorem Wj {W:World} {b o:Nat} : ¬ (C0 W).Mut b o:=by
 rintro (⟨i,hi,_⟩|⟨i,hi,_⟩)
 ·simp [C0] at hi
 ·simp [C0] at hi
theorem Ul {W:World} {b o:Nat} : ¬ (C0 W).Avoid b o:=by
 rintro (h|h)
 ·exact h
 ·exact Wj h
theorem Aop {W:World} : SR (C0 W):=by
 refine ⟨fun i e h=>by simp [C0,nth] at h,fun i j hi=>eW,fun i j o hi=>eW,fun i j o hi=>eW,fun b o h=>absurd h Wj,fun b o h=>?_,fun i o hi=>eW,fun g a hg=>?_⟩
 ·exact False.elim h
 ·simp only [Globs.gl,List.not_mem_nil] at hg
theorem Aif {w:World} {A:Nat->Nat->Prop} {b:Nat} : ∀ {l:List Int} {o i:Nat} {x:Int},Bt w A b 1 o (l.map digC)->nth l i=some x->w.cell? ⟨b,o+i,none⟩=some (.int .i64 x)
 | y :: l,o,0,x,h,hx=>by
  simp only [nth,A0] at hx;subst hx;simp only [Cm,Bt,digC] at h;obtain ⟨-,⟨vs,h1,h2⟩,-⟩:=h;match vs,h1,h2 with
  | [v],h1,h2 =>
   simp only [PRs,PR,and_true] at h2;rw [<- h2.1];exact h1.1
  | [],_,h2=>simp [PRs] at h2
  | _ :: _ :: _,_,h2=>simp [PRs] at h2
 | _ :: l,o,i+1,x,h,hx=>by
  simp only [Cm,Bt] at h;have:=Aif (i:=i) h.2.2 hx;rwa [show o+(i+1)=o+1+i by omega]
abbrev RD (w:World) (v:Value) (zs:List Int):Prop:=VR (C0 w) (digA zs) v
theorem RD.below {w w':World} {v:Value} {zs:List Int} (h:RD w v zs) (hb:Below w.heap.size w w'):RD w' v zs:=VR.mono (Le.of_below (C:=C0 w) hb) _ _ h
theorem call0 {f:FuncId} {args:List AV} {r:AV} {vs:Array Value} {w:World} (hcl:∀ S tk k,cL prog f args S tk k=some (r,S,tk,k)) (ht:Tab0 w) (hv:VRs (C0 w) args vs.toList) :
  Calls prog f vs w fun e w'=>∃ v,e=.returned v/\Below w.heap.size w w'/\VR (C0 w') r v:=by
 refine (Ux mixed (hcl [] [] 0) (C:=C0 w) rfl rfl rfl Aop hv).mono ?_;rintro e w' ⟨v,C',rfl,rfl,hle,-,h1,h2,h3,hr⟩;refine ⟨v,rfl,⟨hle.os,hle.tape,hle.output,hle.size,fun b hb=>hle.keep b hb fun o hm=>Wj hm⟩,?_⟩;refine VR.mono0 (C:=C') (C':=C0 C'.w) ⟨by rw [h3]; exact Cb _,fun b o v' hv' ha=>⟨hv',fun ha'=>?_⟩,fun _ cs _ _ h=>⟨cs,h,rfl⟩,fun id e' he=>(by have he:nth ([]:List Ent) id=some e':=he; cases id <;> cases he),fun id k hk=>(by rw [h2] at hk; cases id <;> cases hk)⟩ _ _ hr;rcases ha' with h|h
 ·exact ha (.inl (by rw [hle.av]; exact h))
 ·exact absurd h Wj
theorem K4 {w:World} {v:Value} {zs:List Int} (h:RD w v zs):∃ a cap,v=.slice a zs.length cap/\zs.length<=cap/\∀ j x,nth zs j=some x->∃ b o,a=some ⟨b,o,none⟩/\w.cell? ⟨b,o+j,none⟩=some (num x)/\True:=by
 simp only [RD,digA,VR] at h;obtain ⟨a,len,cap,rfl,h1,h2,-,h4⟩:=h;have h1:zs.length=len:=aU
 subst h1;refine ⟨a,cap,rfl,h2,fun j x hx=>?_⟩;rcases h4 with h|⟨b,o,sz,rfl,hr⟩
 ·have:zs=[]:=aI
  subst this; simp [nth] at hx
 ·have hsz:sz=1:=by
   cases zs with
   | nil=>simp [nth] at hx
   | cons y l=>simp only [Cm,Bt,digC] at hr; exact hr.1.symm
  subst hsz;exact ⟨b,o,rfl,Aif hr hx,trivial⟩
theorem Amr {w:World} {b o cap:Nat} {zs:List Int} (_hb:True) (hcap:zs.length<=cap) (h:∀ j x,nth zs j=some x->w.cell? ⟨b,o+j,none⟩=some (num x)):RD w (.slice (some ⟨b,o,none⟩) zs.length cap) zs:=by
 have key:∀ (l:List Int) (o:Nat),(∀ j x,nth l j=some x->w.cell? ⟨b,o+j,none⟩=some (num x))->Bt w (C0 w).Avoid b 1 o (l.map digC):=by
  intro l;induction l with
  | nil=>intro _ _; simp only [Cw,Bt]
  | cons x l ih =>
   intro o h;simp only [Cm,Bt];refine ⟨rfl,⟨[num x],⟨h 0 x rfl,Ul,trivial⟩,by simp [PRs,PR,digC,fU]⟩,ih (o+1) fun j y hy=>?_⟩;have:=h (j+1) y hy;rwa [show o+(j+1)=o+1+j from by omega] at this
 simp only [RD,digA,VR];exact ⟨_,_,_,rfl,by simp,hcap,trivial,.inr ⟨b,o,1,rfl,key zs o h⟩⟩
theorem Alu (w:World) (a:Option Addr) (cap:Nat):RD w (.slice a 0 cap) []:=by
 simp only [RD,digA,Cw,VR];exact ⟨a,0,cap,rfl,rfl,Cs _,trivial,.inl trivial⟩
abbrev OR (w:World) (base:Nat) (v:Value) (zs:List Int):Prop:=w.ownsRow base 3 1 v zs.length (zs.map num)
theorem OR.rd {w:World} {base:Nat} {v:Value} {zs:List Int} (h:OR w base v zs) (hb:0<base):RD w v zs:=by
 rcases h.2 with ⟨rfl,h0⟩|⟨g,cap,cur,rfl,h1,h2,h3,h4,h5,h6⟩
 ·have:zs=[]:=Fg h0;subst this;exact Alu w none 0
 ·refine Amr trivial h3 fun j x hx=>?_;rw [Ae] at hx;have:(cur.toList.take (zs.length*1))[j]?=some (num x):=by rw [h6,Fw,hx]; rfl
  rw [Iw] at this;split at this
  ·simp only [It,h2,Fo]; simpa using this
  ·simp at this
theorem OR.below {w w':World} {base:Nat} {v:Value} {zs:List Int} (h:OR w base v zs) (hb:Below w.heap.size w w'):OR w' base v zs:=by
 refine ⟨h.1,?_⟩;rcases h.2 with h0|⟨g,cap,cur,rfl,h1,h2,h3⟩
 ·exact .inl h0
 ·exact .inr ⟨g,cap,cur,rfl,h1,Dc hb h2,h3⟩
theorem OR.trim {w:World} {base:Nat} {a:Option Addr} {cap:Nat} {zs:List Int} (h:OR w base (.slice a zs.length cap) zs):OR w base (.slice a (Dk zs).length cap) (Dk zs):=by
 have hl:=P7 zs;refine ⟨by simp,?_⟩;rcases h.2 with ⟨h0,h0'⟩|⟨g,cap',cur,hv,h1,h2,h3,h4,h5,h6⟩
 ·have:zs=[]:=Fg h0';subst this;cases h0;exact .inl ⟨rfl,rfl⟩
 ·cases hv;refine .inr ⟨g,cap,cur,rfl,h1,h2,aA,h4,h5,?_⟩;have e:(cur.toList.take (zs.length*1)).take ((Dk zs).length*1)=cur.toList.take ((Dk zs).length*1):=by
   rw [iP]; congr 1; omega
  rw [<- e,h6,<- List.map_take,Ia,<- H3]
def lenI:Value->Nat|.slice _ n _=>n|_=>0
theorem Wf (w:World) (a:Option Addr) (cap:Nat) (zs:List Int) (hlen:zs.length<=1000000) (hcap:zs.length<=cap) (hc:∀ j x,nth zs j=some x->∃ b o,a=some ⟨b,o,none⟩/\w.cell? ⟨b,o+j,none⟩=some (num x)) :
  Calls prog 234 #[.slice a zs.length cap] w fun e w'=>e=.returned (.slice a (Dk zs).length cap)/\w'=w:=by
 have HC:=Cl hc;have HZ:=Cl (Vi zs);clear hc;generalize hN:zs.length=N at *;go_enter func234,ntmps234;go_wp2;go_loop [0] (fun v=>∃ n:Nat,v=.slice a n cap/\n<=N/\Hid (∀ j,n<=j->∀ x,nth zs j=some x->x=0)) (fun v=>lenI v);case atStart=>exact ⟨N,rfl,Cb _,HZ⟩
 case round =>
  obtain ⟨n,rfl,hn,hz⟩:=hrel
  cases n with
  | zero =>
   go_wp2
   go_ret
   have ht:=Ji (l:=zs) (n:=0) (Cs _) hz.out (.inl rfl)
   rw [ht]
   exact ⟨rfl,rfl⟩
  | succ n =>
   obtain ⟨x,hx⟩:=Ah (show n<zs.length by omega)
   obtain ⟨b,o,rfl,hcx⟩:=HC.out n x hx
   have HX:=Cl hx
   clear hx
   have hw:Ce.wrap (((n+1:Nat):Int) - 1)=(n:Int):=aT
   have hg:((n+1:Nat):Int) > 0:=aA
   have hlt:(n:Int)<((n+1:Nat):Int):=aA
   by_cases h0:x=0
   ·subst h0
    go_wp2
    exact ⟨⟨n,rfl,aA,Cl (Zp (n:=n+1) hz.out HX.out rfl)⟩,by simp [lenI]⟩
   ·go_wp2
    go_ret
    have ht:=Ji (l:=zs) (n:=n+1) aA hz.out (.inr ⟨x,HX.out,h0⟩)
    have hl:(zs.take (n+1)).length=n+1:=aB
    rw [ht,hl]
    exact ⟨rfl,rfl⟩
end
end Go.Proofs.YthelkgdmgihhiaaGreat
