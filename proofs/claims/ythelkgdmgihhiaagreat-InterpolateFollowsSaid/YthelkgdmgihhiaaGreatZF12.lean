/- Part 12. -/
import Derived.Test.YthelkgdmgihhiaaGreatZF11
import Derived.Lib.Hide
import Derived.WalkKit
import Derived.WalkSpells
import Derived.WalkLawsBesides
import Derived.OwnWalk
import Derived.IntWalk
import Derived.Laws.AppendOwn
import Derived.Lib.OwnBridge
open Array renaming getElem?_eq_some_iff->Cj,getElem?_eq_getElem->Ft
open Go.IntKind renaming i64->Cd
open Go.Lib renaming hid->Cp
open Go.Value renaming oneCell'->jG
open Go.World renaming cell?->I7
open List renaming map_cons->Cn,map_nil->Cs,getElem?_map->Et,eq_nil_of_length_eq_zero->F2,getElem?_take->Ms,take_take->kV
open Nat renaming le_refl->Ce,zero_le->Cl,mul_one->Fj,zero_add->Fm
open Option.some renaming injEq->Ba
namespace Go.Proofs.YthelkgdmgihhiaaGreat
section
open Go Tryz Go.RowKit
set_option maxHeartbeats 2000000
set_option maxRecDepth 100000
abbrev num (x:Int):Value:=.int .i64 x
def Tab0 (w:World):Prop:=0<w.heap.size
theorem Tab0.below {w w':World} (h:Tab0 w) {n:Nat} (hn:0<n) (hb:Below n w w'):Tab0 w':=by
 have h1:w.heap[0]?=some (w.heap[0]'h):=Ft h;rw [<- hb.block 0 hn] at h1;exact (Cj.1 h1).1
theorem Tab0.pos {w:World} (h:Tab0 w):0<w.heap.size:=h
def C0 (W:World):Cx:={ w:=W,av:=fun _ _=>False,φ:=fun _=>0,ψ:=fun _=>(0,0,0),S:=[],tk:=[],n:=0 }
theorem Zg {W:World} {b o:Nat} : ¬ (C0 W).Mut b o:=by
 rintro (⟨i,hi,_⟩|⟨i,hi,_⟩)
 ·simp [C0] at hi
 ·simp [C0] at hi
theorem Xc {W:World} {b o:Nat} : ¬ (C0 W).Avoid b o:=by
 rintro (h|h)
 ·exact h
 ·exact Zg h
theorem Atj {W:World} : SR (C0 W):=by
 refine ⟨fun i e h=>by simp [C0,nth] at h,fun i j hi=>gC,fun i j o hi=>gC,fun i j o hi=>gC,fun b o h=>absurd h Zg,fun b o h=>?_,fun i o hi=>gC,fun g a hg=>?_⟩
 ·exact False.elim h
 ·simp only [Globs.gl,List.not_mem_nil] at hg
theorem Amu {w:World} {A:Nat->Nat->Prop} {b:Nat} : ∀ {l:List Int} {o i:Nat} {x:Int},B4 w A b 1 o (l.map digC)->nth l i=some x->w.cell? ⟨b,o+i,none⟩=some (.int .i64 x)
 | y :: l,o,0,x,h,hx=>by
  simp only [nth,Ba] at hx;subst hx;simp only [Cn,B4,digC] at h;obtain ⟨-,⟨vs,h1,h2⟩,-⟩:=h;match vs,h1,h2 with
  | [v],h1,h2 =>
   simp only [PRs,PR,and_true] at h2;rw [<- h2.1];exact h1.1
  | [],_,h2=>simp [PRs] at h2
  | _ :: _ :: _,_,h2=>simp [PRs] at h2
 | _ :: l,o,i+1,x,h,hx=>by
  simp only [Cn,B4] at h;have:=Amu (i:=i) h.2.2 hx;rwa [show o+(i+1)=o+1+i by omega]
abbrev RD (w:World) (v:Value) (zs:List Int):Prop:=VR (C0 w) (digA zs) v
theorem RD.below {w w':World} {v:Value} {zs:List Int} (h:RD w v zs) (hb:Below w.heap.size w w'):RD w' v zs:=VR.mono (Le.of_below (C:=C0 w) hb) _ _ h
theorem call0 {f:FuncId} {args:List AV} {r:AV} {vs:Array Value} {w:World} (hcl:∀ S tk k,cL prog f args S tk k=some (r,S,tk,k)) (ht:Tab0 w) (hv:VRs (C0 w) args vs.toList) :
  Calls prog f vs w fun e w'=>∃ v,e=.returned v/\Below w.heap.size w w'/\VR (C0 w') r v:=by
 refine (Aet mixed (hcl [] [] 0) (C:=C0 w) rfl rfl rfl Atj hv).mono ?_;rintro e w' ⟨v,C',rfl,rfl,hle,-,h1,h2,h3,hr⟩;refine ⟨v,rfl,⟨hle.os,hle.tape,hle.output,hle.size,fun b hb=>hle.keep b hb fun o hm=>Zg hm⟩,?_⟩;refine VR.mono0 (C:=C') (C':=C0 C'.w) ⟨by rw [h3]; exact Ce _,fun b o v' hv' ha=>⟨hv',fun ha'=>?_⟩,fun _ cs _ _ h=>⟨cs,h,rfl⟩,fun id e' he=>(by have he:nth ([]:List Ent) id=some e':=he; cases id <;> cases he),fun id k hk=>(by rw [h2] at hk; cases id <;> cases hk)⟩ _ _ hr;rcases ha' with h|h
 ·exact ha (.inl (by rw [hle.av]; exact h))
 ·exact absurd h Zg
theorem Mh {w:World} {v:Value} {zs:List Int} (h:RD w v zs):∃ a cap,v=.slice a zs.length cap/\zs.length<=cap/\∀ j x,nth zs j=some x->∃ b o,a=some ⟨b,o,none⟩/\w.cell? ⟨b,o+j,none⟩=some (num x)/\True:=by
 simp only [RD,digA,VR] at h;obtain ⟨a,len,cap,rfl,h1,h2,-,h4⟩:=h;have h1:zs.length=len:=aW
 subst h1;refine ⟨a,cap,rfl,h2,fun j x hx=>?_⟩;rcases h4 with h|⟨b,o,sz,rfl,hr⟩
 ·have:zs=[]:=aL
  subst this; simp [nth] at hx
 ·have hsz:sz=1:=by
   cases zs with
   | nil=>simp [nth] at hx
   | cons y l=>simp only [Cn,B4,digC] at hr; exact hr.1.symm
  subst hsz;exact ⟨b,o,rfl,Amu hr hx,trivial⟩
theorem Arq {w:World} {b o cap:Nat} {zs:List Int} (_hb:True) (hcap:zs.length<=cap) (h:∀ j x,nth zs j=some x->w.cell? ⟨b,o+j,none⟩=some (num x)):RD w (.slice (some ⟨b,o,none⟩) zs.length cap) zs:=by
 have key:∀ (l:List Int) (o:Nat),(∀ j x,nth l j=some x->w.cell? ⟨b,o+j,none⟩=some (num x))->B4 w (C0 w).Avoid b 1 o (l.map digC):=by
  intro l;induction l with
  | nil=>intro _ _; simp only [Cs,B4]
  | cons x l ih =>
   intro o h;simp only [Cn,B4];refine ⟨rfl,⟨[num x],⟨h 0 x rfl,Xc,trivial⟩,by simp [PRs,PR,digC,jG]⟩,ih (o+1) fun j y hy=>?_⟩;have:=h (j+1) y hy;rwa [show o+(j+1)=o+1+j from by omega] at this
 simp only [RD,digA,VR];exact ⟨_,_,_,rfl,by simp,hcap,trivial,.inr ⟨b,o,1,rfl,key zs o h⟩⟩
theorem Aqk (w:World) (a:Option Addr) (cap:Nat):RD w (.slice a 0 cap) []:=by
 simp only [RD,digA,Cs,VR];exact ⟨a,0,cap,rfl,rfl,Cl _,trivial,.inl trivial⟩
abbrev OR (w:World) (base:Nat) (v:Value) (zs:List Int):Prop:=w.ownsRow base 3 1 v zs.length (zs.map num)
theorem OR.rd {w:World} {base:Nat} {v:Value} {zs:List Int} (h:OR w base v zs) (hb:0<base):RD w v zs:=by
 rcases h.2 with ⟨rfl,h0⟩|⟨g,cap,cur,rfl,h1,h2,h3,h4,h5,h6⟩
 ·have:zs=[]:=F2 h0;subst this;exact Aqk w none 0
 ·refine Arq trivial h3 fun j x hx=>?_;rw [Af] at hx;have:(cur.toList.take (zs.length*1))[j]?=some (num x):=by rw [h6,Et,hx]; rfl
  rw [Ms] at this;split at this
  ·simp only [I7,h2,Fm]; simpa using this
  ·simp at this
theorem OR.below {w w':World} {base:Nat} {v:Value} {zs:List Int} (h:OR w base v zs) (hb:Below w.heap.size w w'):OR w' base v zs:=by
 refine ⟨h.1,?_⟩;rcases h.2 with h0|⟨g,cap,cur,rfl,h1,h2,h3⟩
 ·exact .inl h0
 ·exact .inr ⟨g,cap,cur,rfl,h1,Dr hb h2,h3⟩
theorem OR.trim {w:World} {base:Nat} {a:Option Addr} {cap:Nat} {zs:List Int} (h:OR w base (.slice a zs.length cap) zs):OR w base (.slice a (Dm zs).length cap) (Dm zs):=by
 have hl:=Qm zs;refine ⟨by simp,?_⟩;rcases h.2 with ⟨h0,h0'⟩|⟨g,cap',cur,hv,h1,h2,h3,h4,h5,h6⟩
 ·have:zs=[]:=F2 h0';subst this;cases h0;exact .inl ⟨rfl,rfl⟩
 ·cases hv;refine .inr ⟨g,cap,cur,rfl,h1,h2,aA,h4,h5,?_⟩;have e:(cur.toList.take (zs.length*1)).take ((Dm zs).length*1)=cur.toList.take ((Dm zs).length*1):=by
   rw [kV]; congr 1; omega
  rw [<- e,h6,<- List.map_take,Fj,<- Hp]
def lenI:Value->Nat|.slice _ n _=>n|_=>0
theorem Za (w:World) (a:Option Addr) (cap:Nat) (zs:List Int) (hlen:zs.length<=1000000) (hcap:zs.length<=cap) (hc:∀ j x,nth zs j=some x->∃ b o,a=some ⟨b,o,none⟩/\w.cell? ⟨b,o+j,none⟩=some (num x)) :
  Calls prog 234 #[.slice a zs.length cap] w fun e w'=>e=.returned (.slice a (Dm zs).length cap)/\w'=w:=by
 have HC:=Cp hc;have HZ:=Cp (Pp zs);clear hc;generalize hN:zs.length=N at *;go_enter func234,ntmps234;go_wp2;go_loop [0] (fun v=>∃ n:Nat,v=.slice a n cap/\n<=N/\Hid (∀ j,n<=j->∀ x,nth zs j=some x->x=0)) (fun v=>lenI v);case atStart=>exact ⟨N,rfl,Ce _,HZ⟩
 case round =>
  obtain ⟨n,rfl,hn,hz⟩:=hrel
  cases n with
  | zero =>
   go_wp2
   go_ret
   have ht:=Gs (l:=zs) (n:=0) (Cl _) hz.out (.inl rfl)
   rw [ht]
   exact ⟨rfl,rfl⟩
  | succ n =>
   obtain ⟨x,hx⟩:=Ac (show n<zs.length by omega)
   obtain ⟨b,o,rfl,hcx⟩:=HC.out n x hx
   have HX:=Cp hx
   clear hx
   have hw:Cd.wrap (((n+1:Nat):Int) - 1)=(n:Int):=aS
   have hg:((n+1:Nat):Int) > 0:=aA
   have hlt:(n:Int)<((n+1:Nat):Int):=aA
   by_cases h0:x=0
   ·subst h0
    go_wp2
    exact ⟨⟨n,rfl,aA,Cp (Up (n:=n+1) hz.out HX.out rfl)⟩,by simp [lenI]⟩
   ·go_wp2
    go_ret
    have ht:=Gs (l:=zs) (n:=n+1) aA hz.out (.inr ⟨x,HX.out,h0⟩)
    have hl:(zs.take (n+1)).length=n+1:=aC
    rw [ht,hl]
    exact ⟨rfl,rfl⟩
end
end Go.Proofs.YthelkgdmgihhiaaGreat
