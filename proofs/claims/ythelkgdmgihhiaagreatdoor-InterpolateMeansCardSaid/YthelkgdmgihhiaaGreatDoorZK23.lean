/- Part 23. -/
import Derived.Test.YthelkgdmgihhiaaGreatDoorZK22
import Derived.Laws.AppendOwn
import Derived.Lib.OwnBridge
import Derived.WalkKit
namespace Go.Proofs.YthelkgdmgihhiaaGreatDoor
section
open Go Tryz Go.RowKit
def E7 (f:FuncId) (args:List AV) (r:AV):Prop:=∀ S tk k,cL prog f args S tk k=some (r,S,tk,k)
@[reducible] def Gz:Globs:=inferInstance
def SRz (C:Cx):Prop:=@SR Gz C
theorem runZ {f:FuncId} {args:List AV} {r:AV} (h:E7 f args r) {C:Cx} {vs:Array Value} (hs:SRz C) (hv:VRs C args vs.toList) :
  Calls prog f vs C.w fun e w'=>∃ v C',e=.returned v/\C'.w=w'/\Le C C'/\SRz C'/\C'.S=C.S/\C'.tk=C.tk/\C'.n=C.n/\VR C' r v :=
 K8 mixed (h C.S C.tk C.n) rfl rfl rfl hs hv
theorem Aab {f:FuncId} {args:List AV} {r r':AV} (h:E7 f args r) (h':E7 f args r'):r=r':=by
 have h1:=h [] [] 0
 rw [h' [] [] 0] at h1
 simp only [Option.some.injEq,Prod.mk.injEq] at h1
 exact h1.1.symm
theorem Ae3 (n:Int):E7 43 [.int n] (.bool (inB n)):=fun S tk k=>Mh S tk k n
theorem Ae1 (p:PT) (hn:Ai p):E7 84 [.agg (predC p)] (.int (Bu p)):=fun S tk k=>N7 p hn S tk k
theorem Aej (p:PT) (hn:Ai p):E7 85 [.agg (predC p)] (.int (Bg p)):=fun S tk k=>N6 p hn S tk k
theorem Aey (l:List RowT):E7 4 [D4 l] (.bool (H8 l)):=fun S tk k=>X1 S tk k l
theorem Aef  : E7 6 [] (.bool true):=fun S tk k=>X0 S tk k
theorem r11_Z (cs:List (ByteArray × Int)) (n:Int) (hlen:cs.length<=1048576):E7 5 [linA cs n] (.int (B0 cs n)):=fun S tk k=>Ya S tk k cs n hlen
theorem Aet (r:RowT) (hr:r.1.length<=1048576):E7 7 [.agg (rowC r)] (.agg (predC (D6 r))):=fun S tk k=>T7 S tk k r hr
theorem sat_Z (l:List RowT) (p:List (ByteArray × Int)) (hl:l.length<=1000) (dj:∀ r ∈ l,r.1.length<=1048576) (hp:p.length<=1048576):E7 8 [D4 l,Ad p] (.tup [.bool (Ga p true l).1,.bool (Ga p true l).2]):=fun S tk k=>Pg S tk k l p hl dj hp
theorem Afe (pt:List (ByteArray × Int)) (hp:pt.length<=1048576) (p:PT) (hv:valP p):E7 50 [atA pt,.agg (predC p)] (.tup [.int (valQ pt p).1,.bool (valQ pt p).2]):=fun S tk k=>Jw pt hp p hv S tk k
theorem r07_Z (p:PT) (hn:Ai p):E7 10 [.agg (predC p)] (.int (Bc p)):=fun S tk k=>Qq S tk k p hn
theorem Ae6 (cs:List (ByteArray × Int)) (n:Int) (hlen:cs.length<=1048576):E7 11 [linA cs n] (.bool (Ek cs)):=fun S tk k=>X2 S tk k cs n hlen
open Classical in
noncomputable def askG (f:FuncId) (args:List AV):Option AV:=if h:∃ r,E7 f (args.map w2) r then some h.choose else none
theorem Yr {f:FuncId} {args:List AV} {r:AV} (h:askG f args=some r):E7 f (args.map w2) r:=by
 unfold askG at h
 split at h
 ·rename_i hx; cases h; exact hx.choose_spec
 ·cases h
theorem Aee {f:FuncId} {args:List AV} {r:AV} (h:E7 f (args.map w2) r):askG f args=some r:=by
 have hx:∃ r,E7 f (args.map w2) r:=⟨r,h⟩
 unfold askG
 rw [dif_pos hx,Aab hx.choose_spec h]
def onG (f:FuncId):Bool:=f == 43 || f == 84 || f == 85 || f == 4 || f == 6 || f == 5 || f == 7 || f == 8 || f == 50 || f == 10 || f == 11
theorem Agm {f : FuncId} (h : onG f = true) : ∃ fn, prog.funcs[f]? = some fn ∧ (fn.name == "runtime.NumGoroutine") = false ∧ fn.body.isNone = false := by
 simp only [onG,Bool.or_eq_true,beq_iff_eq] at h
 rcases h with (((((((((rfl|rfl)|rfl)|rfl)|rfl)|rfl)|rfl)|rfl)|rfl)|rfl)|rfl
 ·exact ⟨_,func43,by decide +kernel,by decide +kernel⟩
 ·exact ⟨_,func84,by decide +kernel,by decide +kernel⟩
 ·exact ⟨_,func85,by decide +kernel,by decide +kernel⟩
 ·exact ⟨_,func4,by decide +kernel,by decide +kernel⟩
 ·exact ⟨_,func6,by decide +kernel,by decide +kernel⟩
 ·exact ⟨_,func5,by decide +kernel,by decide +kernel⟩
 ·exact ⟨_,func7,by decide +kernel,by decide +kernel⟩
 ·exact ⟨_,func8,by decide +kernel,by decide +kernel⟩
 ·exact ⟨_,func50,by decide +kernel,by decide +kernel⟩
 ·exact ⟨_,func10,by decide +kernel,by decide +kernel⟩
 ·exact ⟨_,func11,by decide +kernel,by decide +kernel⟩
def kwT:Array Value:=(kwL.map Value.string).toArray
@[reducible] instance GW:Globs:=⟨[(0,kwT)],fun _=>false,false,fun _ _=>false,fun _=>false,fun _=>false,false,false⟩
theorem Aea {C:Cx} (h:SR C):SRz C:=by
 cases h with
 | mk a b c d f g i j=>exact @SR.mk Gz C a b c d f g i (fun g a h=>by cases h)
theorem SR_up {C C':Cx} (h:SR C) (hle:Le C C') (h':SRz C'):SR C':=by
 obtain ⟨⟨t,fz,q1⟩,q2⟩:=h.glob 0 kwT (by simp only [Globs.gl,List.mem_singleton])
 have h0:0<C.w.heap.size:=(Array.getElem?_eq_some_iff.1 q1).1
 have hown:=h.own
 cases h' with
 | mk a b c d f g i j=>exact SR.mk a b c d f g i (fun g a hg=>by
   simp only [Globs.gl,List.mem_singleton,Prod.mk.injEq] at hg
   obtain ⟨rfl,rfl⟩:=hg
   refine ⟨⟨t,fz,?_⟩,fun i=>by rw [hle.av]; exact q2 i⟩
   rw [hle.keep 0 h0 fun o hm=>hown 0 o hm (q2 o)]
   exact q1)
def kwC:List AV->Option AV
 | [.prim (.string s)]=>some (.prim (.bool (kwF s)))
 | _=>none
open Classical in
noncomputable def chkC (args:List AV):Option AV:=if h:∃ p,args=[.agg (predC p)]/\Ai p then some (.prim (.int .i64 (Bc h.choose))) else none
noncomputable def Ez (args:List AV) (S:List Ent) (tk:List Nat) (n:Nat) (f:FuncId):Option (AV × List Ent × List Nat × Nat) :=
 if f == 196 then (kwC args).map fun r=>(r,S,tk,n) else if onG f=true then (askG f args).map fun r=>(r,S,tk,n) else none
def onK (f:FuncId):Bool:=f == 196 || f == 49 || onG f
@[reducible] noncomputable def E3:Ext prog where
 on:=onK
 mv:=fun _=>false
 call:=fun f args S tk n=>if f == 49 then (chkC args).map fun r=>(r,S,tk,n) else Ez args S tk n f
theorem Acj {args:List AV} {r:AV} (h:kwC args=some r):∃ s,args=[.prim (.string s)]/\r=.prim (.bool (kwF s)):=by
 unfold kwC at h
 split at h
 ·simp only [Option.some.injEq] at h; exact ⟨_,rfl,h.symm⟩
 ·simp at h
theorem T9 {C:Cx} (hs:SR C):KTab C.w/\∀ i,C.av 0 i:=hs.glob 0 kwT (by simp only [Globs.gl,List.mem_singleton])
theorem Kw_ok {C:Cx} {vs:Array Value} (hs:SR C) (s:ByteArray) (hv:VRs C [.prim (.string s)] vs.toList) :
  Calls prog 196 vs C.w fun e w'=>∃ v C',e=.returned v/\C'.w=w'/\Le C C'/\SR C'/\C'.S=C.S/\C'.tk=C.tk/\C'.n=C.n/\VR C' (.prim (.bool (kwF s))) v:=by
 obtain ⟨vl⟩:=vs
 match vl,hv with
 | [x],hv =>
 simp only [VRs,VR,and_true] at hv
 subst hv
 refine (Tp C.w (T9 hs).1 s).mono ?_
 rintro e w' ⟨rfl,hb⟩
 exact ⟨_,C.at w',rfl,rfl,Le.of_below hb,SR.of_below hs hb,rfl,rfl,rfl,by simp [VR]⟩
@[reducible] noncomputable instance EK:Ext prog:=Ext.sub E3 fun f args S tk n=>Ez args S tk n f
theorem Yt {args:List AV} {S:List Ent} {tk:List Nat} {n:Nat} : Ez args S tk n 49=none:=by
 have h:onG 49=false:=rfl
 simp [Ez,h]
theorem EK_le:CLe (@Ext.call prog EK) (@Ext.call prog E3):=by
 intro f args S tk n r h
 change Ez args S tk n f=some r at h
 show (if f == 49 then (chkC args).map fun r=>(r,S,tk,n) else Ez args S tk n f)=some r
 split
 ·rename_i hf
  rw [show f=49 by simpa using hf,Yt] at h
  cases h
 ·exact h
theorem told3 {f:FuncId} {args:List AV} {S:List Ent} {tk:List Nat} {n:Nat} {r:AV × List Ent × List Nat × Nat} (h:@cL _ prog EK f args S tk n=some r):@cL _ prog E3 f args S tk n=some r:=Ac5 EK_le h
theorem No {f:FuncId} {args:List AV} {S:List Ent} {tk:List Nat} {n:Nat} {r:AV} {S':List Ent} {tk':List Nat} {n':Nat} (h:Ez args S tk n f=some (r,S',tk',n')) :
  S'=S/\tk'=tk/\n'=n/\((f=196/\∃ s,args=[.prim (.string s)]/\r=.prim (.bool (kwF s)))\/((f == 196)=false/\onG f=true/\askG f args=some r)):=by
 unfold Ez at h
 split at h
 ·rename_i hf
  simp only [Option.map_eq_some_iff,Prod.mk.injEq] at h
  obtain ⟨x,hx,rfl,rfl,rfl,rfl⟩:=h
  exact ⟨rfl,rfl,rfl,.inl ⟨by simpa using hf,Acj hx⟩⟩
 ·rename_i hf
  split at h
  ·rename_i bi
   simp only [Option.map_eq_some_iff,Prod.mk.injEq] at h
   obtain ⟨x,hx,rfl,rfl,rfl,rfl⟩:=h
   exact ⟨rfl,rfl,rfl,.inr ⟨by simpa using hf,bi,hx⟩⟩
  ·simp at h
theorem Rk {f:FuncId} {args:List AV} {S:List Ent} {tk:List Nat} {n:Nat} {r:AV} {S':List Ent} {tk':List Nat} {n':Nat} (h:@extC prog EK f args S tk n=some (r,S',tk',n')):Ez args S tk n f=some (r,S',tk',n'):=by
 unfold extC at h
 split at h
 ·exact h
 ·simp at h
theorem Vc (s:ByteArray) (S:List Ent) (tk:List Nat) (n:Nat):Ez [.prim (.string s)] S tk n 196=some (.prim (.bool (kwF s)),S,tk,n):=by simp [Ez,kwC]
theorem Q6 {f:FuncId} {args:List AV} {r:AV} (hf:(f == 196)=false) (bi:onG f=true) (h:askG f args=some r) (S:List Ent) (tk:List Nat) (n:Nat):Ez args S tk n f=some (r,S,tk,n):=by
 unfold Ez
 rw [hf,if_neg (by simp),if_pos bi,h]; rfl
theorem Aem {f:FuncId} (h:onK f=true) (args:List AV) (S:List Ent) (tk:List Nat) (n:Nat):@extC prog EK f args S tk n=Ez args S tk n f:=by
 unfold extC
 exact if_pos h
theorem Vd:Ev prog fun f args S tk n=>Ez args S tk n f:=by
 intro f args S tk n r S' tk' n' h
 obtain ⟨rfl,rfl,rfl,hh⟩:=No h
 rcases hh with ⟨rfl,s,rfl,rfl⟩|⟨-,bi,hx⟩
 ·refine ⟨⟨_,func196,by decide +kernel,by decide +kernel⟩,fun C vs h1 h2 h3 hs hv=>?_⟩
  subst h1 h2 h3
  exact Kw_ok hs s hv
 ·refine ⟨Agm bi,fun C vs h1 h2 h3 hs hv=>?_⟩
  subst h1 h2 h3
  refine (runZ (Yr hx) (Aea hs) (U9 hv)).mono ?_
  rintro e w' ⟨v,C',q1,q2,q3,q4,q5⟩
  exact ⟨v,C',q1,q2,q3,SR_up hs q3 q4,q5⟩
theorem Nn {f:FuncId} {args:List AV} {S:List Ent} {tk:List Nat} {n:Nat} {r:AV} {S':List Ent} {tk':List Nat} {n':Nat} (h:Ez args S tk n f=some (r,S',tk',n')) :
  S'=S/\tk'=tk/\n'=n/\onK f=true/\∀ S2 tk2 n2,Ez args S2 tk2 n2 f=some (r,S2,tk2,n2):=by
 obtain ⟨rfl,rfl,rfl,hh⟩:=No h
 rcases hh with ⟨rfl,s,rfl,rfl⟩|⟨hf,bi,hx⟩
 ·exact ⟨rfl,rfl,rfl,rfl,fun S2 tk2 n2=>Vc s S2 tk2 n2⟩
 ·exact ⟨rfl,rfl,rfl,by unfold onK; rw [bi,Bool.or_true],fun S2 tk2 n2=>Q6 hf bi hx S2 tk2 n2⟩
instance okK:Qn prog:={
 ok:=fun f args S tk n r S' tk' n' h=>Vd f args S tk n r S' tk' n' (Rk h)
 indep:=fun M f args S tk n r S' tk' n' h=>by
  unfold Bq at h
  split at h
  ·rename_i hp
   obtain ⟨e1,e2,e3,eo,e4⟩:=Nn (Rk h)
   refine ⟨e1,e2,.inr ⟨e3,fun S2 tk2 n2=>?_⟩⟩
   unfold Bq
   rw [if_pos hp,Aem eo]
   exact e4 S2 tk2 n2
  ·simp at h }
theorem ext_mv2 (f:FuncId):Ext.mv prog f=false:=rfl
set_option linter.defProp false in
def ev2:=And.intro ext_mv2 ev0
theorem tell {f:FuncId} {args:List AV} {r:AV} (bi:onG f=true) (hf:(f == 196)=false) (h:E7 f (args.map w2) r) (S:List Ent) (tk:List Nat) (k:Nat):cL prog f args S tk k=some (r,S,tk,k):=by
 refine K7 (show onK f=true by unfold onK; rw [bi,Bool.or_true]) ?_
 exact Q6 hf bi (Aee h) S tk k
theorem P6 (S:List Ent) (tk:List Nat) (k:Nat) (s:ByteArray):cL prog 196 [.str s] S tk k=some (.bool (kwF s),S,tk,k):=by
 refine K7 rfl ?_
 exact Vc s S tk k
theorem Ae2 (S:List Ent) (tk:List Nat) (k:Nat) (n:Int):cL prog 43 [.int n] S tk k=some (.bool (inB n),S,tk,k):=tell rfl rfl (Ae3 n) S tk k
end
section
open Go Tryz Go.RowKit
def D0 (W:World):Cx:={ w:=W,av:=fun b _=>b=0,φ:=fun _=>0,ψ:=fun _=>(0,0,0),S:=[],tk:=[],n:=0 }
theorem Qm {W:World} {b o:Nat} : ¬ (D0 W).Mut b o:=by
 rintro (⟨i,hi,_⟩|⟨i,hi,_⟩)
 ·simp [D0] at hi
 ·simp [D0] at hi
theorem Uz {W:World} {b o:Nat} (hb:b≠0):¬ (D0 W).Avoid b o:=by
 rintro (h|h)
 ·exact hb h
 ·exact Qm h
theorem Afi {W:World} (ht:KTab W):SR (D0 W):=by
 obtain ⟨t,fz,hh⟩:=ht
 refine ⟨fun i e h=>by simp [D0,nth] at h,fun i j hi=>by simp [D0] at hi,fun i j o hi=>by simp [D0] at hi,fun i j o hi=>by simp [D0] at hi,fun b o h=>absurd h Qm,fun b o h=>?_,fun i o hi=>by simp [D0] at hi,fun g a hg=>?_⟩
 ·have h':b=0:=h
  subst h'
  exact (Array.getElem?_eq_some_iff.1 hh).1
 ·simp only [Globs.gl,List.mem_singleton,Prod.mk.injEq] at hg
  obtain ⟨rfl,rfl⟩:=hg
  exact ⟨⟨t,fz,hh⟩,fun _=>rfl⟩
theorem Af9 {f:FuncId} {args:List AV} {r:AV} {vs:Array Value} {w:World} (hcl:∀ S tk k,cL prog f args S tk k=some (r,S,tk,k)) (ht:KTab w) (hv:VRs (D0 w) args vs.toList) :
  Calls prog f vs w fun e w'=>∃ v,e=.returned v/\Below w.heap.size w w'/\VR (D0 w') r v:=by
 refine (K8 mixed (hcl [] [] 0) (C:=D0 w) rfl rfl rfl (Afi ht) hv).mono ?_
 rintro e w' ⟨v,C',rfl,rfl,hle,-,h1,h2,h3,hr⟩
 refine ⟨v,rfl,⟨hle.os,hle.tape,hle.output,hle.size,fun b hb=>hle.keep b hb fun o hm=>Qm hm⟩,?_⟩
 refine VR.mono0 (C:=C') (C':=D0 C'.w) ⟨by rw [h3]; exact Nat.le_refl _,fun b o v' hv' ha=>⟨hv',fun ha'=>?_⟩,fun _ cs _ _ h=>⟨cs,h,rfl⟩,fun id e' he=>(by have he:nth ([]:List Ent) id=some e':=he; cases id <;> cases he),fun id k hk=>(by rw [h2] at hk; cases id <;> cases hk)⟩ _ _ hr
 rcases ha' with h|h
 ·exact ha (.inl (by rw [hle.av]; exact h))
 ·exact absurd h Qm
theorem Ado {w:World} {A:Nat->Nat->Prop} {b:Nat} : ∀ {ks:List PT} {o j:Nat} {k:PT},Ap w A b 4 o (Bj ks)->nth ks j=some k->∃ x,PRs w A (predC k) x/\Lie w A b (o+j*4) x
 | _ :: _,o,0,k,h,hk=>by
  simp only [nth,Option.some.injEq] at hk; subst hk
  simp only [Bj,Ap] at h
  obtain ⟨-,⟨vs,h1,h2⟩,-⟩:=h
  exact ⟨vs,h2,by simpa using h1⟩
 | _ :: ks,o,j+1,k,h,hk=>by
  simp only [nth] at hk
  simp only [Bj,Ap] at h
  obtain ⟨x,h1,h2⟩:=Ado h.2.2 hk
  exact ⟨x,h1,by rw [show o+(j+1)*4=o+4+j*4 by omega]; exact h2⟩
 | [],_,_,_,_,hk=>by simp [nth] at hk
theorem Xl {w:World} {k:PT} {x:List Value} (h:PRs w (D0 w).Avoid (predC k) x):∃ a len cap,x=[.int .i64 k.op,.string k.name,.int .i64 k.n,.slice a len cap]:=by
 cases k with
 | node o nm n ks =>
  simp only [predC] at h
  match x,h with
  | [a,b,c,d],h =>
   simp only [PRs,PR,and_true] at h
   obtain ⟨⟨rfl,-⟩,⟨rfl,-⟩,⟨rfl,-⟩,a,len,cap,rfl,-⟩:=h
   exact ⟨a,len,cap,rfl⟩
  | [],h=>simp [PRs] at h
  | [_],h=>simp [PRs] at h
  | [_,_],h=>simp [PRs] at h
  | [_,_,_],h=>simp [PRs] at h
  | _ :: _ :: _ :: _ :: _ :: _,h=>simp [PRs] at h
def PV (w:World) (k:PT) (v:Value):Prop:=VR (D0 w) (.agg (predC k)) v
theorem PV.below {w w':World} {k:PT} {v:Value} (h:PV w k v) (hb:Below w.heap.size w w'):PV w' k v:=VR.mono (Le.of_below (C:=D0 w) hb) _ _ h
theorem PV_of {w:World} {k:PT} {x:List Value} (h:PRs w (D0 w).Avoid (predC k) x):PV w k (.agg x.toArray):=by
 unfold PV
 simp only [VR]
 exact ⟨_,rfl,by simpa using Ey (C:=D0 w) h⟩
theorem Pk {w:World} {o n:Int} {s:ByteArray} {ks:List PT} {v:Value} (h:PV w (.node o s n ks) v) :
  ∃ a cap,v=.agg #[.int .i64 o,.string s,.int .i64 n,.slice a ks.length cap]/\ks.length<=cap /\
   ∀ j k,nth ks j=some k->∃ b off a2 n2 c2,a=some ⟨b,off,none⟩/\PV w k (.agg #[.int .i64 k.op,.string k.name,.int .i64 k.n,.slice a2 n2 c2]) /\
    w.cell? ⟨b,off+j*4,none⟩=some (.int .i64 k.op)/\w.cell? ⟨b,off+j*4+1,none⟩=some (.string k.name)/\w.cell? ⟨b,off+j*4+2,none⟩=some (.int .i64 k.n)/\w.cell? ⟨b,off+j*4+3,none⟩=some (.slice a2 n2 c2)/\b<w.heap.size:=by
 unfold PV at h
 simp only [VR,predC] at h
 obtain ⟨vs,rfl,h⟩:=h
 obtain ⟨l⟩:=vs
 match l,h with
 | [x0,x1,x2,x3],h =>
  simp only [VRs,VR,and_true] at h
  obtain ⟨rfl,rfl,rfl,a,len,cap,rfl,h1,h2,-,h3⟩:=h
  have hl:len=ks.length:=by rw [<- h1,Hd,List.length_map]
  subst hl
  refine ⟨a,cap,rfl,h2,fun j k hk=>?_⟩
  rcases h3 with h3|⟨b,off,sz,rfl,h3⟩
  ·rw [Hd] at h3
   have:ks=[]:=by simpa using h3
   subst this; simp [nth] at hk
  ·have hsz:sz=4:=by
    cases ks with
    | nil=>simp [nth] at hk
    | cons k0 ks =>
     simp only [Bj,Ap] at h3
     rw [<- h3.1,J4]
   subst hsz
   obtain ⟨x,g1,g2⟩:=Ado h3 hk
   obtain ⟨a2,n2,c2,rfl⟩:=Xl g1
   simp only [Lie] at g2
   obtain ⟨c0,-,c1,-,c2',-,c3,-,-⟩:=g2
   refine ⟨b,off,a2,n2,c2,rfl,PV_of g1,c0,c1,c2',c3,?_⟩
   unfold World.cell? at c0
   split at c0
   ·rename_i hh; exact (Array.getElem?_eq_some_iff.1 hh).1
   ·cases c0
 | [],h=>simp [VRs] at h
 | [_],h=>simp [VRs] at h
 | [_,_],h=>simp [VRs] at h
 | [_,_,_],h=>simp [VRs] at h
 | _ :: _ :: _ :: _ :: _ :: _,h=>simp [VRs] at h
end
end Go.Proofs.YthelkgdmgihhiaaGreatDoor
