/- Part 19. -/
import Derived.Test.YtcandeobhlfkbaaGreatZF18
import Derived.RangeFuncKeeps
import Derived.RangeFuncBound
import Derived.RangeFuncLeaves
import Derived.Shelf.Abstract
import Derived.Lib.OwnBridge
import Derived.Laws.AppendOwn
import Derived.Laws.AppendOwnNone
import Derived.OwnWalkIn
import Derived.TacticsInMore
import Derived.LoopIn
import Derived.LoopNIn
open Go.IntKind renaming i64->Cf
open Go.IntWalk renaming i64_in->Og
open Go.Lib renaming hid->Cm
open Go.RowKit.Below renaming refl->C5
open Go.World renaming cell?->Fz
open List renaming length_cons->Ck,mem_cons->Cn,cons_append->Cr,length_nil->Cu,nil_append->Cw,mem_append->C4,getElem?_append_right->C6,range->De,take_length->Gl,map_append->Ij,not_mem_nil->Ol,set_cons_succ->gC
open List.cons renaming injEq->I6
open Nat renaming le_refl->Cc,zero_le->Co,le_trans->Fb,reduceAdd->I2,reduceSub->I3
namespace Go.Proofs.YtcandeobhlfkbaaGreat
section
open Go Tryz Go.RowKit Go.Shelf
set_option maxHeartbeats 4000000
set_option maxRecDepth 100000
attribute [local go_sem] Oper.semAt_some
variable {A:Nat->Nat->Prop}
theorem roomW (k:Nat):Fence.wide.room k:=room_wide k
theorem RoundIn.any {m m':Nat} {P:Program} {l:Nat} {f:FuncId} {tmps:Array Value} {assign body:Code} {w:World} {R:Ending->World->Prop}
  (h:RoundIn Fence.wide m P l f tmps assign body w R):RoundIn Fence.wide m' P l f tmps assign body w R:=⟨h.1,fun c cs _=>h.2 c cs (roomW _)⟩
theorem YieldAt.any {m:Nat} (m':Nat) {P:Program} {l:Nat} {args:Array Value} {W:World} {R:Ending->World->Prop} (h:YieldAt Fence.wide m P l args W R):YieldAt Fence.wide m' P l args W R:=by
 obtain ⟨fn,tmps,assign,body,hy,hR⟩:=h;exact ⟨fn,tmps,assign,body,hy,RoundIn.any hR⟩
theorem hdw (k:Nat):(Fence.wide.depth.isSome=true->1<=k):=fun h=>aV
structure Env (A:Nat->Nat->Prop) (w:World) (l:List RowT) (names:List ByteArray) (rad:Int) (L b2 b3 b4 b5 b6:Nat):Prop where
 c2:∃ v,w.cell? ⟨b2,0,none⟩=some v/\VR (Cq A w) (Ap l) v
 c3:w.cell? ⟨b3,0,none⟩=some (.int .i64 rad)
 c4:∃ v,w.cell? ⟨b4,0,none⟩=some v/\VR (Cq A w) (Ar names) v
 c5:w.cell? ⟨b5,0,none⟩=some (.func (.yield L) #[] #[])
 c6:w.cell? ⟨b6,0,none⟩=some (.func (.func 39) #[] #[.pointer (some ⟨b2,0,none⟩),.pointer (some ⟨b3,0,none⟩),.pointer (some ⟨b4,0,none⟩),.pointer (some ⟨b5,0,none⟩),.pointer (some ⟨b6,0,none⟩)])
theorem Ak {w w':World} (hb:Below w.heap.size w w') {p:Addr} {v:Value} (h:w.cell? p=some v):w'.cell? p=some v:=by
 rw [hb.cell (World.block_lt_of_cell? w _ h)]; exact h
theorem Env.below {w w':World} {l:List RowT} {names:List ByteArray} {rad:Int} {L b2 b3 b4 b5 b6:Nat} (h:Env A w l names rad L b2 b3 b4 b5 b6) (hb:Below w.heap.size w w'):Env A w' l names rad L b2 b3 b4 b5 b6:=by
 obtain ⟨⟨v,h1,h2⟩,h3,⟨u,h4,h5⟩,h6,h7⟩:=h;exact ⟨⟨v,Ak hb h1,h2.below0 hb⟩,Ak hb h3,⟨u,Ak hb h4,h5.below0 hb⟩,Ak hb h6,Ak hb h7⟩
def Q7 (A:Nat->Nat->Prop) (l:List RowT) (nn:Nat) (w0:World) (L:Nat) (Jx:Pt->World->Prop):Prop :=
 ∀ (W:World) (p:Pt) (v:Value),p.length=nn->Below w0.heap.size w0 W->VR (Cq A W) (Ag p) v->YieldAt Fence.wide 3 prog L #[v] W fun e W' =>
  (satF l p=false/\e=.returned (.bool true)/\Below W.heap.size W W')\/(satF l p=true/\e=.returned (.bool false)/\Jx p W')
def Ug (W:World) (Jx:Pt->World->Prop) (r:Option Pt) (e:Ending) (W':World):Prop :=
 (r=none/\e=.returned (.bool true)/\Below W.heap.size W W')\/∃ p,r=some p/\e=.returned (.bool false)/\Jx p W'
structure Ac4 (l:List RowT):Prop where
 len:l.length<=64
 few:∀ r ∈ l,r.1.length<=24
 cf:∀ r ∈ l,∀ c ∈ r.1,c.2.natAbs<=1000000000000
 cn:∀ r ∈ l,r.2.1.natAbs<=1000000000000
theorem Afb {w0:World} {l:List RowT} {names:List ByteArray} {rad:Int} {L b2 b3 b4 b5 b6:Nat} {Jx:Pt->World->Prop} (hA:Hq A w0) (hl:Ac4 l) (hn6:names.length<=6) (hrad:0<=rad/\rad<=8) (hY:Q7 A l names.length w0 L Jx) (hE0:Env A w0 l names rad L b2 b3 b4 b5 b6)
  (ns:List ByteArray) (pt:Pt) (reached:Bool) (hnm:pt.map (·.1)++ns=names) (hap:Yd pt) (hpv:∀ x ∈ pt,x.2.natAbs<=8)
  (ih:∀ s ns',ns=s :: ns'->∀ n,n ∈ Hc rad->∀ (W:World) (v:Value) (re:Bool),Below w0.heap.size w0 W->VR (Cq A W) (Ag (pt++[(s,n)])) v ->
   CallsIn Fence.wide 3 prog 39 #[v,.bool re,.pointer (some ⟨b2,0,none⟩),.pointer (some ⟨b3,0,none⟩),.pointer (some ⟨b4,0,none⟩),.pointer (some ⟨b5,0,none⟩),.pointer (some ⟨b6,0,none⟩)] W (Ug W Jx (B3 (satF l) rad ns' (pt++[(s,n)]) re)))
  (W:World) (v:Value) (hb:Below w0.heap.size w0 W) (hv:VR (Cq A W) (Ag pt) v) :
  CallsIn Fence.wide 3 prog 39 #[v,.bool reached,.pointer (some ⟨b2,0,none⟩),.pointer (some ⟨b3,0,none⟩),.pointer (some ⟨b4,0,none⟩),.pointer (some ⟨b5,0,none⟩),.pointer (some ⟨b6,0,none⟩)] W (Ug W Jx (B3 (satF l) rad ns pt reached)):=by
 have hAW:Hq A W:=hA.le hb.size;obtain ⟨a,cap,rfl,hcap,hpc⟩:=Aej hv;refine callsIn_of_wp func39 rfl trivial ?_ rfl;simp only [ntmps39,List.size_toArray,Ck,Cu,I2,I3,Array.replicate_succ,Array.replicate_zero,List.push_toArray,List.append_toArray,Cw,Cr];have hE:=hE0.below hb;have hpl:pt.length<=8:=by
  have:pt.length<=names.length:=eP
  omega
 obtain ⟨⟨lv',hc2,hlv⟩,hc3,⟨nv,hc4,hnv⟩,hc5,hc6⟩:=hE;obtain ⟨la,lc,rfl,hlc,hlr⟩:=rowsQ hlv;gi_wp2_with fail;gi_loopw [17] (fun p wr=>∃ j:Nat,p=.int .i64 (j:Int)/\j<=l.length/\Below W.heap.size W wr) (fun p wr=>l.length - (Ko p).toNat);case atStart=>exact ⟨0,rfl,Co _,C5 _ _⟩
 case round =>
  obtain ⟨j,rfl,hj,hbr⟩:=hrel
  by_cases hlt:j<l.length
  ·obtain ⟨r,hrj⟩:=Af hlt
   obtain ⟨b,o,a2,n2,c2,rfl,hbl,g0,g1,g2,hvr⟩:=hlr j r hrj
   have d0:=Ak hbr g0
   have d1:=Ak hbr g1
   have d2:=Ak hbr g2
   have hji:(j:Int)<(l.length:Int):=aA
   have hj0:(0:Int)<=(j:Int):=aA
   have hw:Cf.wrap ((j:Int)+1)=((j+1:Nat):Int):=by rw [Og _ (by have:=hl.len; omega)]; omega
   have hmem:r ∈ l:=K7 hrj
   have hcl:=fun S tk k=>Ti S tk k r.1 r.2.1 r.2.2 pt rad (hl.few r hmem) (hl.cf r hmem) (hl.cn r hmem) hpl hpv hrad
   have hb1:Below W.heap.size W (wr.alloc (.cells #[.slice a2 n2 c2,.int .i64 r.2.1,.bool r.2.2] 38)):=hbr.alloc hbr.size _
   have hcall:=Ah8 (vs:=#[.agg #[.slice a2 n2 c2,.int .i64 r.2.1,.bool r.2.2],.slice a pt.length cap,.int .i64 rad]) (w:=wr.alloc (.cells #[.slice a2 n2 c2,.int .i64 r.2.1,.bool r.2.2] 38)) (hAW.le hb1.size) hcl (by
    simp only [VRs,and_true];exact ⟨hvr.below0 hb1,hv.below0 hb1,by simp [VR]⟩)
   clear hcl
   have x3:=Ak hb1 hc3
   gi_wp2_with fail
   refine ⟨trivial,(callsIn_wide.2 hcall).mono ?_⟩
   clear hcall
   rintro e W2 ⟨v2,rfl,hb2,hv2⟩
   simp only [VR] at hv2
   subst hv2
   have hb3:Below W.heap.size W W2:=hb1.trans (hb2.mono hb1.size)
   cases hh:hopF r.1 r.2.1 r.2.2 pt rad with
   | true =>
    gi_wp2_with fail
    go_ret
    exact .inl ⟨Am1 hmem hrad.1 hrad.2 hap hh _ _,rfl,hb3⟩
   | false =>
    gi_wp2_with fail
    go_roundw
    case rel=>exact ⟨j+1,rfl,hlt,hb3⟩
    case measure=>simp [Ko]; omega
  ·have hji:¬ (j:Int)<(l.length:Int):=aA
   have hbw:=hbr
   obtain ⟨na,nc,rfl,hnc,hnr⟩:=Aee (hnv.below0 hbr)
   have x4:=Ak hbr hc4
   have x3:=Ak hbr hc3
   have x5:=Ak hbr hc5
   have x6:=Ak hbr hc6
   cases ns with
   | nil =>
    have hlen:pt.length=names.length:=eP
    have hq:(pt.length:Int)=(names.length:Int):=aA
    gi_wp2_with fail
    have hv2:VR (Cq A wr) (Ag pt) (.slice a names.length cap):=by have:=hv.below0 hbr; rwa [hlen] at this
    cases reached with
    | false =>
     refine Iv.wpIn_region_ext (n0:=3) [some 31,some 32,some 33,some 34,some 35,some 36,some 37,some 38,some 39,some 9] 10 8 [Iv.Is (.bool false),Iv.Is (.bool true),Iv.Is (.bool true),Iv.Is undef,Iv.Is undef,Iv.Is undef,Iv.Is undef,Iv.Is undef] mixed rfl rfl aH aL ?hop ?hend
     case hop =>
      refine Iv.allOps_cons ?o0 (Iv.allOps_cons ?o1 (Iv.allOps_cons ?o2 (Iv.allOps_cons ?o3 (Iv.allOps_cons ?o4 (Iv.allOps_cons ?o5 (Iv.allOps_cons ?o6 (Iv.allOps_cons ?o7 Iv.allOps_nil)))))))
      case o0 =>
       refine Iv.opGoal_plain rfl rfl (by simp) fun f w' hr hk=>?_
       have HR:=Cm hr
       clear hr
       simp [Iv.putD,Iv.depsO,Iv.depsL,Iv.phi,Iv.Is,Iv.KnowAll,Region.binds,Iv.put_some,Iv.put_none] at hk ⊢
       try simp only [hk]
       go_wp2
       exact Iv.onePost_is _ rfl rfl ⟨Iv.Ext.refl _,rfl⟩
      case o1 =>
       refine Iv.opGoal_plain rfl rfl (by simp) fun f w' hr hk=>?_
       have HR:=Cm hr
       clear hr
       simp [Iv.putD,Iv.depsO,Iv.depsL,Iv.phi,Iv.Is,Iv.KnowAll,Region.binds,Iv.put_some,Iv.put_none] at hk ⊢
       try simp only [hk]
       go_wp2
       exact Iv.onePost_is _ rfl rfl ⟨Iv.Ext.refl _,rfl⟩
      case o2 =>
       refine Iv.opGoal_plain rfl rfl (by simp) fun f w' hr hk=>?_
       have HR:=Cm hr
       clear hr
       simp [Iv.putD,Iv.depsO,Iv.depsL,Iv.phi,Iv.Is,Iv.KnowAll,Region.binds,Iv.put_some,Iv.put_none] at hk ⊢
       try simp only [hk]
       go_wp2
       exact Iv.onePost_is _ rfl rfl ⟨Iv.Ext.refl _,rfl⟩
      case o3 =>
       refine Iv.opGoal_skip fun f w' hr hk=>?_
       simp [Iv.putD,Iv.depsO,Iv.depsL,Iv.phi,Iv.Is,Iv.KnowAll,Region.binds,Iv.put_some,Iv.put_none] at hk ⊢
       try simp [Iv.wantD,hk,Iv.putD,Iv.depsO,Iv.depsL,Iv.phi,Iv.Is,Iv.KnowAll,Region.binds,Iv.put_some,Iv.put_none]
      case o4 =>
       refine Iv.opGoal_skip fun f w' hr hk=>?_
       simp [Iv.putD,Iv.depsO,Iv.depsL,Iv.phi,Iv.Is,Iv.KnowAll,Region.binds,Iv.put_some,Iv.put_none] at hk ⊢
       try simp [Iv.wantD,hk,Iv.putD,Iv.depsO,Iv.depsL,Iv.phi,Iv.Is,Iv.KnowAll,Region.binds,Iv.put_some,Iv.put_none]
      case o5 =>
       refine Iv.opGoal_skip fun f w' hr hk=>?_
       simp [Iv.putD,Iv.depsO,Iv.depsL,Iv.phi,Iv.Is,Iv.KnowAll,Region.binds,Iv.put_some,Iv.put_none] at hk ⊢
       try simp [Iv.wantD,hk,Iv.putD,Iv.depsO,Iv.depsL,Iv.phi,Iv.Is,Iv.KnowAll,Region.binds,Iv.put_some,Iv.put_none]
      case o6 =>
       refine Iv.opGoal_skip fun f w' hr hk=>?_
       simp [Iv.putD,Iv.depsO,Iv.depsL,Iv.phi,Iv.Is,Iv.KnowAll,Region.binds,Iv.put_some,Iv.put_none] at hk ⊢
       try simp [Iv.wantD,hk,Iv.putD,Iv.depsO,Iv.depsL,Iv.phi,Iv.Is,Iv.KnowAll,Region.binds,Iv.put_some,Iv.put_none]
      case o7 =>
       refine Iv.opGoal_skip fun f w' hr hk=>?_
       simp [Iv.putD,Iv.depsO,Iv.depsL,Iv.phi,Iv.Is,Iv.KnowAll,Region.binds,Iv.put_some,Iv.put_none] at hk ⊢
       try simp [Iv.wantD,hk,Iv.putD,Iv.depsO,Iv.depsL,Iv.phi,Iv.Is,Iv.KnowAll,Region.binds,Iv.put_some,Iv.put_none]
     case hend =>
      intro f w' hr hk
      simp [Iv.putD,Iv.phi,Iv.Is,Iv.KnowAll,De,De.loop,Iv.put_some,Iv.put_none] at hk ⊢
      obtain ⟨k0,k1,k2,k3,k4,k5,k6,k7⟩:=hk
      simp only [k0,k1,k2,k3,k4,k5,k6,k7]
      gi_wp2_with fail
      go_ret
      exact .inl ⟨by simp [B3],rfl,hbr.trans (hr.mono hbr.size)⟩
    | true =>
     refine Iv.wpIn_region_ext (n0:=3) [some 31,some 32,some 33,some 34,some 35,some 36,some 37,some 38,some 39,some 9] 10 7 [Iv.Is (.bool true),Iv.Is (.bool false),Iv.Is (.bool false),Iv.Is (.func (.yield L) #[] #[]),Kv A (.frz [] .tight),Iv.Is (.slice a names.length cap),Kv A (Ag pt)] mixed rfl rfl aH aL ?hop ?hend
     case hop =>
      refine Iv.allOps_cons ?o0 (Iv.allOps_cons ?o1 (Iv.allOps_cons ?o2 (Iv.allOps_cons ?o3 (Iv.allOps_cons ?o4 (Iv.allOps_cons ?o5 (Iv.allOps_cons ?o6 Iv.allOps_nil))))))
      case o0 =>
       refine Iv.opGoal_plain rfl rfl (by simp) fun f w' hr hk=>?_
       have y5:=Ak hr x5
       have HR:=Cm hr
       clear hr
       simp [Iv.putD,Iv.depsO,Iv.depsL,Iv.phi,Iv.Is,Iv.KnowAll,Region.binds,Iv.put_some,Iv.put_none,Kv] at hk ⊢
       try simp only [hk]
       go_wp2
       exact Iv.onePost_is _ rfl rfl ⟨Iv.Ext.refl _,rfl⟩
      case o1 =>
       refine Iv.opGoal_plain rfl rfl (by simp) fun f w' hr hk=>?_
       have y5:=Ak hr x5
       have HR:=Cm hr
       clear hr
       simp [Iv.putD,Iv.depsO,Iv.depsL,Iv.phi,Iv.Is,Iv.KnowAll,Region.binds,Iv.put_some,Iv.put_none,Kv] at hk ⊢
       try simp only [hk]
       go_wp2
       exact Iv.onePost_is _ rfl rfl ⟨Iv.Ext.refl _,rfl⟩
      case o2 =>
       refine Iv.opGoal_plain rfl rfl (by simp) fun f w' hr hk=>?_
       have y5:=Ak hr x5
       have HR:=Cm hr
       clear hr
       simp [Iv.putD,Iv.depsO,Iv.depsL,Iv.phi,Iv.Is,Iv.KnowAll,Region.binds,Iv.put_some,Iv.put_none,Kv] at hk ⊢
       try simp only [hk]
       go_wp2
       exact Iv.onePost_is _ rfl rfl ⟨Iv.Ext.refl _,rfl⟩
      case o3 =>
       refine Iv.opGoal_guard rfl rfl (by simp) fun f w' hr hk=>?_
       have y5:=Ak hr x5
       have HR:=Cm hr
       clear hr
       refine ⟨dS,?_⟩
       simp [Iv.putD,Iv.depsO,Iv.depsL,Iv.phi,Iv.Is,Iv.KnowAll,Region.binds,Iv.put_some,Iv.put_none,Kv] at hk ⊢
       try simp only [hk]
       go_wp2
       exact Iv.onePost_is _ rfl rfl ⟨Iv.Ext.refl _,rfl⟩
      case o4 =>
       refine Iv.opGoal_guard rfl rfl (by simp) fun f w' hr hk=>?_
       have y5:=Ak hr x5
       have HR:=Cm hr
       clear hr
       refine ⟨dS,?_⟩
       simp [Iv.putD,Iv.depsO,Iv.depsL,Iv.phi,Iv.Is,Iv.KnowAll,Region.binds,Iv.put_some,Iv.put_none,Kv] at hk ⊢
       go_wp2
       exact Iv.onePost_is _ rfl rfl ⟨Iv.Ext.alloc _ _,by simp only [VR,CapR]; exact ⟨_,0,0,rfl,rfl,Cc _,rfl,.inl trivial⟩⟩
      case o5 =>
       refine Iv.opGoal_guard rfl rfl (by simp) fun f w' hr hk=>?_
       have y5:=Ak hr x5
       have HR:=Cm hr
       clear hr
       refine ⟨dS,?_⟩
       simp [Iv.putD,Iv.depsO,Iv.depsL,Iv.phi,Iv.Is,Iv.KnowAll,Region.binds,Iv.put_some,Iv.put_none,Kv] at hk ⊢
       try simp only [hk]
       go_wp2
       exact Iv.onePost_is _ rfl rfl ⟨Iv.Ext.refl _,rfl⟩
      case o6 =>
       refine Iv.opGoal_guard rfl rfl (by simp) fun f w' hr hk=>?_
       have y5:=Ak hr x5
       have HR:=Cm hr
       clear hr
       refine ⟨dS,?_⟩
       simp [Iv.putD,Iv.depsO,Iv.depsL,Iv.phi,Iv.Is,Iv.KnowAll,Region.binds,Iv.put_some,Iv.put_none,Kv] at hk ⊢
       obtain ⟨q4,q5,-⟩:=hk
       rw [q5]
       refine Acq (es:=[]) (ys:=pt.map Bi) (c2:=.unk) (sz:=2) rfl rfl (hAW.le (Fb hbr.size HR.out.size)) q4 (hv2.below0 HR.out) aL rfl (Gm (f:=Bi) (sz:=2) (fun _=>rfl) pt) aB ?_
       intro v' w'' hb'' hv''
       exact Iv.onePost_is v' rfl rfl ⟨hb'',hv''⟩
     case hend =>
      intro f w' hr hk
      simp [Iv.putD,Iv.phi,Iv.Is,Iv.KnowAll,De,De.loop,Iv.put_some,Iv.put_none,Kv] at hk ⊢
      obtain ⟨k0,k1,k2,k3,k4,k5,k6⟩:=hk
      simp only [k0,k1,k2,k3,k5]
      have hb2:Below W.heap.size W w':=hbr.trans (hr.mono hbr.size)
      obtain ⟨fn,tmps,assign,body,hy,hR⟩:=hY w' pt (f 6) hlen (hb.trans (hb2.mono hb.size)) k6
      gi_wp2_with fail
      refine (RoundIn.any hR).mono ?_
      clear hR
      rintro e W3 (⟨h0,rfl,hb3⟩|⟨h0,rfl,hx⟩)
      ·gi_wp2_with fail
       go_ret
       exact .inl ⟨by simp [B3,h0],rfl,hb2.trans (hb3.mono hb2.size)⟩
      ·gi_wp2_with fail
       go_ret
       exact .inr ⟨pt,by simp [B3,h0],rfl,hx⟩
   | cons s ns =>
    have hlen:pt.length<names.length:=eP
    have hq:¬ (pt.length:Int)=(names.length:Int):=aA
    have hV:=Ah8 (vs:=#[.int .i64 rad]) (w:=wr) (hAW.le hbr.size) (fun S tk k=>Nu S tk k rad) (by simp [VRs,VR])
    gi_wp2_with fail
    refine ⟨trivial,(callsIn_wide.2 hV).mono ?_⟩
    clear hV
    rintro e W2 ⟨v2,rfl,hb2,hv2⟩
    obtain ⟨va,vc,rfl,hvc,hvr⟩:=Ap9 hv2
    have hbW:Below W.heap.size W W2:=hbr.trans (hb2.mono hbr.size)
    obtain ⟨F,hF⟩:∃ F,F=fun n:Int=>B3 (satF l) rad ns (pt++[(s,n)]) (reached || n == rad || n == -rad):=⟨_,rfl⟩
    have hre:∀ (n:Int) (b:Bool) (r:Option Pt),b=(reached || n == rad || n == -rad)->B3 (satF l) rad ns (pt++[(s,n)]) b=r->F n=r:=fun n b r hb h=>by rw [hF]; rw [hb] at h; exact h
    have hsr:B3 (satF l) rad (s :: ns) pt reached=(Hc rad).findSome? F:=by rw [hF]; rfl
    have hnth:nth names pt.length=some s:=by
     rw [<- hnm,Ae,C6 (by simp)]; simp
    obtain ⟨nb,no,rfl,hnbl,hns⟩:=hnr _ _ hnth
    have hneg:Cf.wrap (-rad)=-rad:=Og _ aA
    have hvl:(Hc rad).length<=1000:=by
     unfold Hc;split
     ·simp
     ·rw [Uf]; omega
    have hns2:=Ak hb2 hns
    clear hns x3 x4 x5 x6
    cases reached
    all_goals
     gi_wp2_with fail
     gi_loopw [43] (fun p wr=>∃ j:Nat,p=.int .i64 (j:Int)/\j<=(Hc rad).length/\((Hc rad).take j).findSome? F=none/\Below W2.heap.size W2 wr) (fun p wr=>(Hc rad).length - (Ko p).toNat)
     case atStart=>exact ⟨0,rfl,Co _,rfl,C5 _ _⟩
     case round =>
      obtain ⟨j,rfl,hj,hnone,hbr2⟩:=hrel
      have hbWr:Below W.heap.size W wr:=hbW.trans (hbr2.mono hbW.size)
      by_cases hlt:j<(Hc rad).length
      ·obtain ⟨n,hnj⟩:=Af hlt
       obtain ⟨vb,vo,rfl,hvbl,hvcell⟩:=hvr j n hnj
       have hji:(j:Int)<((Hc rad).length:Int):=aA
       have hj0:(0:Int)<=(j:Int):=aA
       have d0:=Ak hbr2 hvcell
       have hw:Cf.wrap ((j:Int)+1)=((j+1:Nat):Int):=by rw [Og _ aA]; omega
       gi_wp2_with fail
       have x4:=Ak hbWr hc4
       have xs:=Ak hbr2 hns2
       have hv3:=hv.below0 hbWr
       refine Iv.wpIn_region_ext (n0:=3) [some 47,some 48,some 49,some 50,some 51,some 52,some 53,some 54,some 55,some 56,some 57,some 58,some 59,some 60,some 61,some 14] 16 14 [Iv.Is (.slice a pt.length cap),Iv.Is (.slice a pt.length cap),Iv.Is (.int .i64 (pt.length:Nat)),Iv.Is (.slice a pt.length cap),Iv.Is (.int .i64 (pt.length:Nat)),Kv A (.frz (pt.map Bi) .tight),Iv.Is (.slice (some ⟨nb,no,none⟩) names.length nc),Iv.Is (.slice a pt.length cap),Iv.Is (.int .i64 (pt.length:Nat)),Iv.Is (.pointer (some ⟨nb,no+pt.length,none⟩)),Iv.Is (.string s),Iv.Is (.int .i64 n),Iv.Is (.agg #[.string s,.int .i64 n]),Kv A (.frz [Bi (s,n)] .tight)] mixed rfl rfl aH aL ?hop ?hend
       case hop =>
        refine Iv.allOps_cons ?o0 (Iv.allOps_cons ?o1 (Iv.allOps_cons ?o2 (Iv.allOps_cons ?o3 (Iv.allOps_cons ?o4 (Iv.allOps_cons ?o5 (Iv.allOps_cons ?o6 (Iv.allOps_cons ?o7 (Iv.allOps_cons ?o8 (Iv.allOps_cons ?o9 (Iv.allOps_cons ?o10 (Iv.allOps_cons ?o11 (Iv.allOps_cons ?o12 (Iv.allOps_cons ?o13 Iv.allOps_nil)))))))))))))
        case o0 =>
         refine Iv.opGoal_plain rfl rfl (by simp) fun f w' hr hk=>?_
         have y4:=Ak hr x4
         have ys:=Ak hr xs
         have HR:=Cm hr
         clear hr
         simp [Iv.putD,Iv.depsO,Iv.depsL,Iv.phi,Iv.Is,Iv.KnowAll,Region.binds,Iv.put_some,Iv.put_none,Kv] at hk ⊢
         try simp only [hk]
         go_wp2
         exact Iv.onePost_is _ rfl rfl ⟨Iv.Ext.refl _,rfl⟩
        case o1 =>
         refine Iv.opGoal_plain rfl rfl (by simp) fun f w' hr hk=>?_
         have y4:=Ak hr x4
         have ys:=Ak hr xs
         have HR:=Cm hr
         clear hr
         simp [Iv.putD,Iv.depsO,Iv.depsL,Iv.phi,Iv.Is,Iv.KnowAll,Region.binds,Iv.put_some,Iv.put_none,Kv] at hk ⊢
         try simp only [hk]
         go_wp2
         exact Iv.onePost_is _ rfl rfl ⟨Iv.Ext.refl _,rfl⟩
        case o2 =>
         refine Iv.opGoal_plain rfl rfl (by simp) fun f w' hr hk=>?_
         have y4:=Ak hr x4
         have ys:=Ak hr xs
         have HR:=Cm hr
         clear hr
         simp [Iv.putD,Iv.depsO,Iv.depsL,Iv.phi,Iv.Is,Iv.KnowAll,Region.binds,Iv.put_some,Iv.put_none,Kv] at hk ⊢
         try simp only [hk]
         go_wp2
         exact Iv.onePost_is _ rfl rfl ⟨Iv.Ext.refl _,rfl⟩
        case o3 =>
         refine Iv.opGoal_plain rfl rfl (by simp) fun f w' hr hk=>?_
         have y4:=Ak hr x4
         have ys:=Ak hr xs
         have HR:=Cm hr
         clear hr
         simp [Iv.putD,Iv.depsO,Iv.depsL,Iv.phi,Iv.Is,Iv.KnowAll,Region.binds,Iv.put_some,Iv.put_none,Kv] at hk ⊢
         try simp only [hk]
         go_wp2
         exact Iv.onePost_is _ rfl rfl ⟨Iv.Ext.refl _,rfl⟩
        case o4 =>
         refine Iv.opGoal_plain rfl rfl (by simp) fun f w' hr hk=>?_
         have y4:=Ak hr x4
         have ys:=Ak hr xs
         have HR:=Cm hr
         clear hr
         simp [Iv.putD,Iv.depsO,Iv.depsL,Iv.phi,Iv.Is,Iv.KnowAll,Region.binds,Iv.put_some,Iv.put_none,Kv] at hk ⊢
         try simp only [hk]
         go_wp2
         exact Iv.onePost_is _ rfl rfl ⟨Iv.Ext.refl _,rfl⟩
        case o5 =>
         refine Iv.opGoal_plain rfl rfl (by simp) fun f w' hr hk=>?_
         have y4:=Ak hr x4
         have ys:=Ak hr xs
         have HR:=Cm hr
         clear hr
         simp [Iv.putD,Iv.depsO,Iv.depsL,Iv.phi,Iv.Is,Iv.KnowAll,Region.binds,Iv.put_some,Iv.put_none,Kv] at hk ⊢
         have e1:(0:Int)<=(pt.length:Int):=aA
         have e2:(pt.length:Int)<=(cap:Int):=aA
         have e3:pt.length<=cap:=hcap
         simp only [hk]
         go_wp2
         exact Iv.onePost_is _ rfl rfl ⟨Iv.Ext.refl _,An5 (hv3.below0 HR.out)⟩
        case o6 =>
         refine Iv.opGoal_plain rfl rfl (by simp) fun f w' hr hk=>?_
         have y4:=Ak hr x4
         have ys:=Ak hr xs
         have HR:=Cm hr
         clear hr
         simp [Iv.putD,Iv.depsO,Iv.depsL,Iv.phi,Iv.Is,Iv.KnowAll,Region.binds,Iv.put_some,Iv.put_none,Kv] at hk ⊢
         try simp only [hk]
         go_wp2
         exact Iv.onePost_is _ rfl rfl ⟨Iv.Ext.refl _,rfl⟩
        case o7 =>
         refine Iv.opGoal_plain rfl rfl (by simp) fun f w' hr hk=>?_
         have y4:=Ak hr x4
         have ys:=Ak hr xs
         have HR:=Cm hr
         clear hr
         simp [Iv.putD,Iv.depsO,Iv.depsL,Iv.phi,Iv.Is,Iv.KnowAll,Region.binds,Iv.put_some,Iv.put_none,Kv] at hk ⊢
         try simp only [hk]
         go_wp2
         exact Iv.onePost_is _ rfl rfl ⟨Iv.Ext.refl _,rfl⟩
        case o8 =>
         refine Iv.opGoal_plain rfl rfl (by simp) fun f w' hr hk=>?_
         have y4:=Ak hr x4
         have ys:=Ak hr xs
         have HR:=Cm hr
         clear hr
         simp [Iv.putD,Iv.depsO,Iv.depsL,Iv.phi,Iv.Is,Iv.KnowAll,Region.binds,Iv.put_some,Iv.put_none,Kv] at hk ⊢
         try simp only [hk]
         go_wp2
         exact Iv.onePost_is _ rfl rfl ⟨Iv.Ext.refl _,rfl⟩
        case o9 =>
         refine Iv.opGoal_plain rfl rfl (by simp) fun f w' hr hk=>?_
         have y4:=Ak hr x4
         have ys:=Ak hr xs
         have HR:=Cm hr
         clear hr
         simp [Iv.putD,Iv.depsO,Iv.depsL,Iv.phi,Iv.Is,Iv.KnowAll,Region.binds,Iv.put_some,Iv.put_none,Kv] at hk ⊢
         have e1:(0:Int)<=(pt.length:Int):=aA
         have e2:(pt.length:Int)<(names.length:Int):=aA
         rw [hk.1,hk.2]
         go_wp2
         exact Iv.onePost_is _ rfl rfl ⟨Iv.Ext.refl _,rfl⟩
        case o10 =>
         refine Iv.opGoal_plain rfl rfl (by simp) fun f w' hr hk=>?_
         have y4:=Ak hr x4
         have ys:=Ak hr xs
         have HR:=Cm hr
         clear hr
         simp [Iv.putD,Iv.depsO,Iv.depsL,Iv.phi,Iv.Is,Iv.KnowAll,Region.binds,Iv.put_some,Iv.put_none,Kv] at hk ⊢
         try simp only [hk]
         go_wp2
         exact Iv.onePost_is _ rfl rfl ⟨Iv.Ext.refl _,rfl⟩
        case o11 =>
         refine Iv.opGoal_plain rfl rfl (by simp) fun f w' hr hk=>?_
         have y4:=Ak hr x4
         have ys:=Ak hr xs
         have HR:=Cm hr
         clear hr
         simp [Iv.putD,Iv.depsO,Iv.depsL,Iv.phi,Iv.Is,Iv.KnowAll,Region.binds,Iv.put_some,Iv.put_none,Kv] at hk ⊢
         try simp only [hk]
         go_wp2
         exact Iv.onePost_is _ rfl rfl ⟨Iv.Ext.refl _,rfl⟩
        case o12 =>
         refine Iv.opGoal_plain rfl rfl (by simp) fun f w' hr hk=>?_
         have y4:=Ak hr x4
         have ys:=Ak hr xs
         have HR:=Cm hr
         clear hr
         simp [Iv.putD,Iv.depsO,Iv.depsL,Iv.phi,Iv.Is,Iv.KnowAll,Region.binds,Iv.put_some,Iv.put_none,Kv] at hk ⊢
         try simp only [hk]
         go_wp2
         exact Iv.onePost_is _ rfl rfl ⟨Iv.Ext.refl _,rfl⟩
        case o13 =>
         refine Iv.opGoal_plain rfl rfl (by simp) fun f w' hr hk=>?_
         have y4:=Ak hr x4
         have ys:=Ak hr xs
         have HR:=Cm hr
         clear hr
         simp [Iv.putD,Iv.depsO,Iv.depsL,Iv.phi,Iv.Is,Iv.KnowAll,Region.binds,Iv.put_some,Iv.put_none,Kv] at hk ⊢
         simp only [hk]
         go_wp2
         exact Iv.onePost_is _ rfl rfl ⟨Iv.Ext.alloc _ _,Aqe (hAW.le (Fb hbWr.size HR.out.size))⟩
       case hend =>
        intro f w' hr hk
        simp [Iv.putD,Iv.phi,Iv.Is,Iv.KnowAll,De,De.loop,Iv.put_some,Iv.put_none,Kv] at hk ⊢
        obtain ⟨k0,k1,k2,k3,k4,k5,k6,k7,k8,k9,k10,k11,k12,k13⟩:=hk
        simp only [k0,k1,k2,k3,k4,k6,k7,k8,k9,k10,k11,k12]
        refine Yc (es:=pt.map Bi) (ys:=[Bi (s,n)]) (c2:=.tight) (sz:=2) rfl rfl (hAW.le (Fb hbWr.size hr.size)) k5 k13 aL (Gm (f:=Bi) (sz:=2) (fun _=>rfl) pt) rfl aB ?_
        intro v' w3 hb3 hv3'
        have hv4:VR (Cq A w3) (Ag (pt++[(s,n)])) v':=by
         unfold Ag; rw [Ij]; exact hv3'
        have hbW3:Below W.heap.size W w3:=(hbWr.trans (hr.mono hbWr.size)).trans (hb3.mono (Fb hbWr.size hr.size))
        have x3:=Ak hbW3 hc3
        have x6:=Ak hbW3 hc6
        have hmem:n ∈ Hc rad:=K7 hnj
        have ihn:=fun re=>ih s ns rfl n hmem w3 v' re (hb.trans (hbW3.mono hb.size)) hv4
        clear k0 k1 k2 k3 k4 k5 k6 k7 k8 k9 k10 k11 k12 k13 hv3'
        simp only [Iv.put_some,List.setIfInBounds_toArray,gC,List.set_cons_zero]
        have hsz3:=hbW3.size
        have hbL:Below W2.heap.size W2 w3:=(hbr2.trans (hr.mono hbr2.size)).trans (hb3.mono (Fb hbr2.size hr.size))
        gi_wp2_with fail
        all_goals
         refine ⟨trivial,(callsIn_wide.2 (callsIn_wide.1 (ihn _))).mono ?_⟩
         clear ihn
         rintro e W4 (⟨h0,rfl,hb4⟩|⟨p,h0,rfl,hx⟩)
         ·have hFn:F n=none:=hre n _ none (by simp [*]) h0
          gi_wp2_with fail
          go_roundw
          case rel=>exact ⟨j+1,rfl,hlt,Ai8 hnj hnone hFn,hbL.trans (hb4.mono hbL.size)⟩
          case measure=>simp [Ko]; omega
         ·have hFn:F n=some p:=hre n _ (some p) (by simp [*]) h0
          gi_wp2_with fail
          go_ret
          exact .inr ⟨p,by rw [hsr,Ai7 hnj hnone,hFn],rfl,hx⟩
      ·have hji:¬ (j:Int)<((Hc rad).length:Int):=aA
       gi_wp2_with fail
       go_ret
       have he:j=(Hc rad).length:=aA
       rw [he,Gl] at hnone
       exact .inl ⟨hsr.trans hnone,rfl,hbWr⟩
end
section
open Go Tryz Go.RowKit Go.Shelf
set_option maxHeartbeats 2000000
set_option maxRecDepth 100000
attribute [local go_sem] Oper.semAt_some
variable {A:Nat->Nat->Prop}
theorem Uu {P:Program} {w:World} {p:Addr} {m:Mode} (f:Fn) (a b:Array Value):(store p (.func f a b) m).run P w=stored P w p (.func f a b) m:=run_store P w p _ m rfl
attribute [local go_sem] Uu
theorem Q7.later {l:List RowT} {nn:Nat} {w w':World} {L:Nat} {Jx:Pt->World->Prop} (h:Q7 A l nn w L Jx) (hb:Below w.heap.size w w'):Q7 A l nn w' L Jx :=
 fun W p v hp hB hv=>h W p v hp (hb.trans (hB.mono hb.size)) hv
theorem Adc {pt:Pt} {names ns:List ByteArray} (hnd:names.Pairwise (·≠·)) (h:pt.map (·.1)++ns=names):Yd pt:=by
 subst h;have:=(List.pairwise_append.1 hnd).1;rw [List.pairwise_map] at this;exact this
theorem Aa4 {w0:World} {l:List RowT} {names:List ByteArray} {rad:Int} {L b2 b3 b4 b5 b6:Nat} {Jx:Pt->World->Prop} (hA:Hq A w0) (hl:Ac4 l) (hn6:names.length<=6) (hnd:names.Pairwise (·≠·)) (hrad:0<=rad/\rad<=8) (hY:Q7 A l names.length w0 L Jx) (hE0:Env A w0 l names rad L b2 b3 b4 b5 b6) :
  ∀ (ns:List ByteArray) (pt:Pt) (reached:Bool),pt.map (·.1)++ns=names->(∀ x ∈ pt,x.2.natAbs<=8)->∀ (W:World) (v:Value),Below w0.heap.size w0 W->VR (Cq A W) (Ag pt) v ->
  CallsIn Fence.wide 3 prog 39 #[v,.bool reached,.pointer (some ⟨b2,0,none⟩),.pointer (some ⟨b3,0,none⟩),.pointer (some ⟨b4,0,none⟩),.pointer (some ⟨b5,0,none⟩),.pointer (some ⟨b6,0,none⟩)] W (Ug W Jx (B3 (satF l) rad ns pt reached))
 | [],pt,reached,hnm,hpv=>fun W v hb hv=>Afb hA hl hn6 hrad hY hE0 [] pt reached hnm (Adc hnd hnm) hpv (fun s ns' h=>aV) W v hb hv
 | s :: ns,pt,reached,hnm,hpv=>fun W v hb hv=>Afb hA hl hn6 hrad hY hE0 (s :: ns) pt reached hnm (Adc hnd hnm) hpv (fun s' ns' h n hn W v re hb hv=>by
   simp only [I6] at h;obtain ⟨rfl,rfl⟩:=h;refine Aa4 hA hl hn6 hnd hrad hY hE0 ns (pt++[(s,n)]) re eP (fun x hx=>?_) W v hb hv;rcases C4.1 hx with hx|hx
   ·exact hpv x hx
   ·simp only [Cn,Ol,or_false] at hx;subst hx;have:=(Nt hrad.1 hrad.2).1 hn;simp only; omega) W v hb hv
theorem Agf {W:World} {l:List RowT} {names:List ByteArray} {rad:Int} {L b2 b3 b4:Nat} {Jx:Pt->World->Prop} (hA:Hq A W) (hl:Ac4 l) (hn6:names.length<=6) (hnd:names.Pairwise (·≠·)) (hrad:0<=rad/\rad<=8) (hY:Q7 A l names.length W L Jx)
  (h2:∃ v,W.cell? ⟨b2,0,none⟩=some v/\VR (Cq A W) (Ap l) v) (h3:W.cell? ⟨b3,0,none⟩=some (.int .i64 rad)) (h4:∃ v,W.cell? ⟨b4,0,none⟩=some v/\VR (Cq A W) (Ar names) v) :
  CallsIn Fence.wide 3 prog 38 #[.func (.yield L) #[] #[],.pointer (some ⟨b2,0,none⟩),.pointer (some ⟨b3,0,none⟩),.pointer (some ⟨b4,0,none⟩)] W fun e W'=>(∃ v,e=.returned v) /\
   ((B3 (satF l) rad names [] (rad == 0)=none/\Below W.heap.size W W')\/∃ p,B3 (satF l) rad names [] (rad == 0)=some p/\Jx p W'):=by
 obtain ⟨W3,hW3⟩:∃ W3,W3=(W.alloc (.cells #[.func (.yield L) #[] #[]] 73)).alloc (.cells #[.func (.func 39) #[] #[.pointer (some ⟨b2,0,none⟩),.pointer (some ⟨b3,0,none⟩),.pointer (some ⟨b4,0,none⟩),.pointer (some ⟨W.heap.size,0,none⟩),.pointer (some ⟨W.heap.size+1,0,none⟩)]] 74):=⟨_,rfl⟩;have hb3:Below W.heap.size W W3:=by rw [hW3]; exact ((C5 _ W).alloc (Cc _) _).alloc (by simp) _
 have hB5:W3.heap[W.heap.size]?=some (.cells #[.func (.yield L) #[] #[]] 73 (0,0)):=by
  rw [hW3,Below.heap_alloc _ _ _ (by simp)]; exact An W _
 have hB6:W3.heap[W.heap.size+1]?=some (.cells #[.func (.func 39) #[] #[.pointer (some ⟨b2,0,none⟩),.pointer (some ⟨b3,0,none⟩),.pointer (some ⟨b4,0,none⟩),.pointer (some ⟨W.heap.size,0,none⟩),.pointer (some ⟨W.heap.size+1,0,none⟩)]] 74 (0,0)):=by
  rw [hW3]; have:=An (W.alloc (.cells #[.func (.yield L) #[] #[]] 73)) (.cells #[.func (.func 39) #[] #[.pointer (some ⟨b2,0,none⟩),.pointer (some ⟨b3,0,none⟩),.pointer (some ⟨b4,0,none⟩),.pointer (some ⟨W.heap.size,0,none⟩),.pointer (some ⟨W.heap.size+1,0,none⟩)]] 74);exact Ya2w
 have g5:W3.cell? ⟨W.heap.size,0,none⟩=some (.func (.yield L) #[] #[]):=by simp [Fz,hB5]
 have g6:W3.cell? ⟨W.heap.size+1,0,none⟩=some (.func (.func 39) #[] #[.pointer (some ⟨b2,0,none⟩),.pointer (some ⟨b3,0,none⟩),.pointer (some ⟨b4,0,none⟩),.pointer (some ⟨W.heap.size,0,none⟩),.pointer (some ⟨W.heap.size+1,0,none⟩)]):=by simp [Fz,hB6]
 have g3:=Ak hb3 h3;have hE:Env A W3 l names rad L b2 b3 b4 W.heap.size (W.heap.size+1):=by
  obtain ⟨v,q1,q2⟩:=h2;obtain ⟨u,q3,q4⟩:=h4;exact ⟨⟨v,Ak hb3 q1,q2.below0 hb3⟩,g3,⟨u,Ak hb3 q3,q4.below0 hb3⟩,g5,g6⟩
 have hv:=fun re=>Aa4 (hA.le hb3.size) hl hn6 hnd hrad (hY.later hb3) hE names [] re rfl (by simp) W3 (.slice none 0 0) (C5 _ _) (by simp only [Ag,VR]; exact ⟨_,_,_,rfl,rfl,Cc _,trivial,.inl rfl⟩);clear hB5 hB6 hE;refine callsIn_of_wp func38 rfl trivial ?_ rfl;simp only [ntmps38,List.size_toArray,Ck,Cu,I2,I3,Array.replicate_succ,Array.replicate_zero,List.push_toArray,List.append_toArray,Cw,Cr];rw [hW3] at g6 g3;gi_wp2_with fail;rw [<- hW3];refine ⟨trivial,(callsIn_wide.2 (callsIn_wide.1 (hv _))).mono ?_⟩;clear hv;rintro e W4 (⟨h0,rfl,hb4⟩|⟨p,h0,rfl,hx⟩)
 ·gi_wp2_with fail;go_end0;exact ⟨⟨_,rfl⟩,.inl ⟨h0,hb3.trans (hb4.mono hb3.size)⟩⟩
 ·gi_wp2_with fail;go_end0;exact ⟨⟨_,rfl⟩,.inr ⟨p,h0,hx⟩⟩
theorem Akj (W:World) (lv nv:Value) (rad:Int) (h1:lv.oneCell'=true) (h2:nv.oneCell'=true) :
  CallsIn Fence.wide 3 prog 23 #[lv,nv,.int .i64 rad] W fun e W'=>e=.returned (.func (.func 38) #[] #[.pointer (some ⟨W.heap.size,0,none⟩),.pointer (some ⟨W.heap.size+2,0,none⟩),.pointer (some ⟨W.heap.size+1,0,none⟩)]) /\
   W'=((W.alloc (.cells #[lv] 22)).alloc (.cells #[nv] 41)).alloc (.cells #[.int .i64 rad] 3):=by
 refine callsIn_of_wp func23 rfl trivial ?_ rfl;simp only [ntmps23,List.size_toArray,Ck,Cu,I2,I3,Array.replicate_succ,Array.replicate_zero,List.push_toArray,List.append_toArray,Cw,Cr];gi_wp2_with fail;go_ret;exact ⟨rfl,rfl⟩
end
end Go.Proofs.YtcandeobhlfkbaaGreat
