/- Part 29. -/
import Derived.Test.YthelkgdmgihhiaaGreatDoorZK28
import Derived.Test.YthelkgdmgihhiaaGreatDoorRows
import Derived.Test.YthelkgdmgihhiaaGreatDoorTie
import Derived.Test.YthelkgdmgihhiaaGreatDoorCards
import Derived.ProofKit
import Derived.Deep.SlicePairs
import Derived.Below
import Derived.Carry
import Derived.ChangeSame
import Derived.ChangeSlices
import Derived.Lib.SmallJoins
import Derived.Lib.LaidTab
import Derived.Stop.LaidErr
import Derived.SevenTiedAt
namespace Go.Proofs.YthelkgdmgihhiaaGreatDoor
section
open Go Go.Proofs.Tryz Go.ChangeShapes Go.WideShapes Go.ChangeAt Go.RowKit Go.Deep
theorem Agh {f:FuncId} {args:List AV} {W:World} {vs:Array Value} (ht:KTab W) (h:cL prog f args [] [] 0=some (.bool true,[],[],0)) (hv:VRs (D0 W) args vs.toList) :
  Calls prog f vs W fun e w'=>e=.returned (.bool true)/\Below W.heap.size W w':=by
 refine (K8 mixed h (C:=D0 W) rfl rfl rfl (Afi ht) hv).mono ?_
 rintro e w' ⟨v,C',rfl,rfl,hle,-,-,-,-,hr⟩
 simp only [VR] at hr
 refine ⟨by rw [hr],⟨hle.os,hle.tape,hle.output,hle.size,fun b hb=>hle.keep b hb fun o hm=>Qm hm⟩⟩
def Agq:Value->ByteArray|.string s=>s|_=>⟨#[]⟩
theorem Aar {w:World} {a:Addr} {v:Value} (h:w.cell? a=some v):a.spot=none/\a.block<w.heap.size:=by
 unfold World.cell? at h
 split at h
 ·rename_i hh
  refine ⟨?_,(Array.getElem?_eq_some_iff.1 hh).1⟩
  split at h
  ·cases h
  ·rename_i hs; simpa using hs
 ·cases h
set_option maxRecDepth 100000 in
theorem Lk {w:World} {A:Nat->Nat->Prop} {b:Nat} (hA:∀ o,¬ A b o):∀ (cs:List (ByteArray × Int)) (o:Nat),(∀ i c,nth cs i=some c->w.cell? ⟨b,o+i*2,none⟩=some (.string c.1)/\w.cell? ⟨b,o+i*2+1,none⟩=some (.int .i64 c.2))->Ap w A b 2 o (cs.map Bn)
 | [],_,_=>by simp only [List.map_nil,Ap]
 | c :: cs,o,h=>by
  simp only [List.map_cons,Ap]
  obtain ⟨h1,h2⟩:=h 0 c rfl
  simp only [Nat.zero_mul,Nat.add_zero] at h1 h2
  refine ⟨rfl,⟨[.string c.1,.int .i64 c.2],⟨h1,hA _,h2,hA _,trivial⟩,?_⟩,Lk hA cs (o+2) fun i d hd=>?_⟩
  ·simp [PRs,PR,Bn,Value.oneCell']
  ·have:=h (i+1) d hd
   rwa [show o+(i+1)*2=o+2+i*2 from by omega] at this
theorem Afa {w:World} (ht:KTab w) {o:Nat} {v:Value} (h:w.cell? ⟨0,o,none⟩=some v):∃ s,v=.string s:=by
 obtain ⟨t,fz,hh⟩:=ht
 have h2:(kwL.map Value.string).toArray[o]?=some v:=by simpa [World.cell?,hh] using h
 rw [List.getElem?_toArray,List.getElem?_map,Option.map_eq_some_iff] at h2
 obtain ⟨z,-,hz⟩:=h2
 exact ⟨z,hz.symm⟩
set_option maxRecDepth 100000 in
theorem N4 {H:Type} {enc:TypeId × Value->H} {w:World} {sp:Nat->Bool} {cu:Bool} {fuel:Nat} {v:Value} {t:TypeId} {x:DataW H × List MemPlace} (di:KTab w) (ht:prog.underlying t=some (.slice 45)) (h:DataW.trod enc prog w 0 sp cu fuel t [v]=some x) :
  ∃ cs,VR (D0 w) (Ad cs) v:=by
 rcases Go.Deep.open_slice_pairs ht underlying45 (by kernel_rfl) rfl rfl (by kernel_rfl) (by kernel_rfl) h with ⟨hv,-⟩|⟨a,len,cap,m,n,V0,V1,D0,D1,P0,P1,hv,-,hl,hcap,hm,-,hi⟩
 ·have:v=.slice none 0 0:=by simpa using hv
  subst this
  exact ⟨[],by simp only [Ad,List.map_nil,VR]; exact ⟨none,0,0,rfl,rfl,Nat.le_refl _,trivial,.inl trivial⟩⟩
 ·have hv:v=.slice (some a) len cap:=by simpa using hv
  subst hv
  refine ⟨(List.range len).map fun i=>(Agq (V0 i),G3 (V1 i)),?_⟩
  simp only [Ad,VR]
  refine ⟨some a,len,cap,rfl,by simp,hl,trivial,?_⟩
  by_cases h0:len=0
  ·left; subst h0; rfl
  right
  have lx:len<=m:=by rw [hm]; split <;> omega
  obtain ⟨z0,-,-,-⟩:=hi 0 (by omega)
  obtain ⟨s0,s1⟩:=Aar z0
  obtain ⟨b,off,sp'⟩:=a
  have e0:sp'=none:=by simpa [Addr.add] using s0
  subst e0
  have hb0:b≠0:=by
   rintro rfl
   obtain ⟨-,c1,-,t1⟩:=hi 0 (by omega)
   obtain ⟨q,hq,-,-⟩:=DataW.trod_int underlying3 t1
   have bo:V1 0=.int .i64 q:=by simpa using hq
   rw [A2,bo] at c1
   obtain ⟨s,hs⟩:=Afa di c1
   cases hs
  refine ⟨b,off,2,rfl,Lk (fun _=>Uz hb0) _ _ fun i c hc=>?_⟩
  rw [Bl] at hc
  simp only [Option.map_eq_some_iff] at hc
  obtain ⟨j,hj,rfl⟩:=hc
  have hlt:=A7 hj
  rw [Ab,List.getElem?_range (by simpa using hlt)] at hj
  simp only [Option.some.injEq] at hj
  subst hj
  have b5:i<len:=by simpa using hlt
  obtain ⟨c0,c1,t0,t1⟩:=hi i (by omega)
  obtain ⟨s,hs,-⟩:=DataW.trod_string underlying9 t0
  obtain ⟨q,hq,-,-⟩:=DataW.trod_int underlying3 t1
  rw [A2] at c0 c1
  have j2:V0 i=.string s:=by simpa using hs
  have bo:V1 i=.int .i64 q:=by simpa using hq
  refine ⟨?_,?_⟩
  ·show w.cell? _=_
   rw [c0]; simp [j2,Agq]
  ·show w.cell? _=_
   rw [show off+i*2+1=off+(i*2+1) by omega,c1]; simp [bo,G3]
set_option maxRecDepth 100000 in
theorem Z5 {H:Type} {enc:TypeId × Value->H} {w:World} {r:Reach} {b0:Nat} {sp:Nat->Bool} {cu:Bool} {v:Value} {d:DataW H} {p:List MemPlace} (di:KTab w) (hv:Value.okWide prog w r b0 26 v) (h:DataW.Trod enc prog w 0 sp cu 26 v d p) :
  ∃ x:RowT,VR (D0 w) (.agg (rowC x)) v:=by
 obtain ⟨xs,rfl,hsz⟩:=okWide_struct underlying26 hv
 obtain ⟨c0,c1,c2,rfl⟩:=Go.Joins.array3 (hsz.trans (by kernel_rfl:prog.cellsOf 26=3))
 obtain ⟨fuel,hf⟩:=h
 obtain ⟨y0,y1,m,-,-,f0,f1⟩:=trod_struct2 underlying26 hf
 have kL:prog.cellsOf 24=2:=by kernel_rfl
 have kB:prog.cellsOf 4=1:=by kernel_rfl
 have f0':DataW.trod enc prog w 0 sp cu m 24 [c0,c1]=some y0:=by simpa [kL,Value.cells] using f0
 have f1':DataW.trod enc prog w 0 sp cu m 4 [c2]=some y1:=by simpa [kL,kB,Value.cells] using f1
 obtain ⟨z0,z1,n',-,-,g0,g1⟩:=trod_struct2 underlying24 f0'
 have k22:prog.cellsOf 22=1:=by kernel_rfl
 have k3:prog.cellsOf 3=1:=by kernel_rfl
 have g0':DataW.trod enc prog w 0 sp cu n' 22 [c0]=some z0:=by simpa [k22] using g0
 have g1':DataW.trod enc prog w 0 sp cu n' 3 [c1]=some z1:=by simpa [k22,k3] using g1
 obtain ⟨cs,hc⟩:=N4 di underlying22 g0'
 obtain ⟨k,hk,-,-⟩:=DataW.trod_int underlying3 g1'
 obtain ⟨e,he,-⟩:=DataW.trod_bool underlying4 f1'
 have jc:c1=.int .i64 k:=by simpa using hk
 have et:c2=.bool e:=by simpa using he
 refine ⟨(cs,k,e),?_⟩
 simp only [rowC,VR]
 exact ⟨_,rfl,by simp only [VRs,VR]; exact ⟨hc,jc,et,trivial⟩⟩
set_option maxRecDepth 100000 in
theorem Uj {H:Type} {enc:TypeId × Value->H} {w:World} {r:Reach} {b0:Nat} {sp:Nat->Bool} {cu:Bool} {v:Value} {d:DataW H} {p:List MemPlace} (di:KTab w) (hv:Value.okWide prog w r b0 27 v) (h:DataW.Trod enc prog w 0 sp cu 27 v d p) :
  ∃ pt:List (ByteArray × Int),VR (D0 w) (Ad pt) v:=by
 obtain ⟨a,len,cap,rfl⟩:=okWide_slice underlying27 hv
 obtain ⟨fuel,hf⟩:=h
 exact N4 di underlying27 hf
abbrev laid3 : List (String × DataW Unit) := [("liquidcheck/names.keywords", Rows.laid_liquidcheck_names_keywords)]
theorem g0 : prog.globalNamed "liquidcheck/names.keywords" = some 0 := by kernel_rfl
theorem Age:(prog.globals[0]?).map (·.type)=some 236:=by kernel_rfl
set_option maxRecDepth 100000 in
theorem Aev {H:Type} : (Rows.laid_liquidcheck_names_keywords:DataW H)=.agg (kwL.map fun s=>.lit (.string s.data.toList)):=rfl
set_option maxRecDepth 100000 in
theorem Us {W:World} (h:laidMet prog laid3 W):KTab W:=by
 obtain ⟨ps,⟨g',t',cs,fuel,p,q,ny,gu,gk,hd,_,_⟩,_⟩:=h
 obtain rfl:=Option.some.inj (g0.symm.trans ny)
 obtain rfl:=Option.some.inj (Age.symm.trans gu)
 obtain ⟨xs,m,-,hx,hlen,lu,hi⟩:=DataW.trod_array underlying236 hd
 have aq:prog.cellsOf 9=1:=by kernel_rfl
 have hc2:prog.cellsOf 236=42:=by kernel_rfl
 rw [hc2] at hlen
 rw [Aev] at hx
 have ip:xs.map (·.1)=kwL.map fun s=>(DataW.lit (.string s.data.toList):DataW Unit):=by
  have:=congrArg Prod.fst hx
  simpa using this.symm
 have cw:cs=(kwL.map Value.string).toArray:=by
  apply Array.ext'
  apply List.ext_getElem?
  intro i
  by_cases od:i<42
  ·have h1:=hi i od
   rw [aq,Nat.mul_one,List.getElem?_eq_getElem (by omega)] at h1
   obtain ⟨s,e1,e2,-⟩:=DataW.trod_string underlying9 h1
   have h3:cs.toList[i]?=some (.string s):=by
    have:=congrArg (·[0]?) e1
    simpa [List.getElem?_take,List.getElem?_drop] using this
   have h4:(xs.map (·.1))[i]?=some (DataW.lit (.string s.data.toList):DataW Unit):=by
    rw [List.getElem?_map,List.getElem?_eq_getElem (by omega)]
    simp [e2]
   rw [ip] at h4
   simp only [List.getElem?_map,Option.map_eq_some_iff,DataW.lit.injEq,Lit.string.injEq] at h4
   obtain ⟨z,hz,dx⟩:=h4
   have mg:z=s:=by
    apply ByteArray.ext
    exact Array.toList_inj.1 dx
   subst mg
   rw [h3]
   simp [hz]
  ·have hk:kwL.length=42:=rfl
   rw [List.getElem?_eq_none (by omega),List.getElem?_eq_none (by simp; omega)]
 subst cw
 simp only [World.var?,g0,Option.bind_some] at gk
 split at gk
 ·rename_i cs' t fz hh
  simp only [Option.some.injEq] at gk
  rw [gk] at hh
  exact ⟨t,fz,hh⟩
 ·simp at gk
def cellD:DataW Unit->Value|.lit (.string s)=>.string ⟨s.toArray⟩|_=>undef
def Af1:DataW Unit->Array Value|.agg ds=>(ds.map cellD).toArray|_=>#[]
def Ac0 (cs:Array Value):Obj->Obj|.cells _ t fz=>.cells cs t fz|o=>o
noncomputable def Rw (os:Os):World :=
 { World.holding prog os ⟨#[],#[],[]⟩ with heap:=(World.holding prog os ⟨#[],#[],[]⟩).heap.modify 0 (Ac0 (Af1 Rows.laid_liquidcheck_names_keywords)) }
theorem Ack (os:Os) (args:Array Value):laidMet prog laid3 ((Rw os).forCall (fun _ _=>0) ⟨#[],args,[]⟩).memory :=
 laidMet_of_run' 8 (by kernel_rfl) (by kernel_rfl)
section
variable {H:Type} {enc:TypeId × Value->H} {P:Program}
theorem Qd {f:Func} {s:ChangeSpec} {apart fresh im again:Bool} {W W':World} {args:Array Value} {v:Value} {ds gs:List (DataW H)} {before pa pv:List MemPlace}
  (hW:DataW.Whole enc P f.params.toList s.vars apart W args.toList ds gs before)
  (hres:∀ (b:Nat) (sp:Nat->Bool) (hd:Bool),DataW.TrodAll enc P W' b sp hd f.resultTypes.toList (v.resultList f.resultTypes.size) (s.fn H (ds++gs)).results [])
  (aa:∀ sp:Nat->Bool,(∀ p ∈ before,sp p.block=true)->DataW.TrodAll enc P W' 0 sp true f.params.toList args.toList (s.fn H (ds++gs)).args pa)
  (ix:∀ sp:Nat->Bool,(∀ p ∈ before,sp p.block=true)->DataW.TrodVars enc P W' sp s.vars (s.fn H (ds++gs)).vars pv)
  (ez:before=pa++pv) (hb:Below W.heap.size W W')
  (ag:∀ (j:Nat) (t:TypeId) (r:Value),f.resultTypes[j]?=some t->(v.resultList f.resultTypes.size)[j]?=some r->Value.okWide P W' .any 0 t r) :
  s.post enc P f apart fresh im again W args v W':=by
 have hlt:∀ p ∈ before,p.block<W.heap.size:=fun p hp=>hW.lt p hp
 have bu:∀ p ∈ before,(fun b=>decide (b<W.heap.size)) p.block=true:=fun p hp=>by simpa using hlt p hp
 refine ⟨ds,gs,before,[],pa,pv,hW,hres _ _ _,aa _ bu,ix _ bu,World.keptBut_mono (fun p hp=>⟨hp,?_⟩) (hb.frame (· ∈ before)),fun _=>?_⟩
 ·rw [ez,List.mem_append] at hp
  exact Or.inr hp
 ·obtain ⟨_,_,_,_,_,hz,hn⟩:=hW
  refine ⟨ag,_,_,([]++pa)++pv,⟨[]++pa,pv,trodAll_append (aa _ (fun _ _=>rfl)) (hres _ _ _),ix _ (fun _ _=>rfl),rfl,?_,?_⟩,?_⟩
  ·intro b off hp
   have ek:MemPlace.cell b off ∈ before:=by rw [ez]; simpa using hp
   rw [hb.frozen (hlt _ ek)]
   exact hz b off ek
  ·intro ha
   have:=hn ha
   rw [ez] at this
   simpa using this
  ·intro p hp _
   rw [ez]
   simpa using hp
end
set_option maxRecDepth 100000 in
theorem Aan {H:Type} {enc:TypeId × Value->H} {W:World} {base:Nat} {sp:Nat->Bool} {cu:Bool} (b:Bool):DataW.Trod enc prog W base sp cu 4 (.bool b) (.lit (.bool b)) []:=⟨1,by simp [DataW.trod,Value.cells,underlying4]⟩
set_option maxRecDepth 100000 in
theorem Ui {W:World} (c:Bool):Value.okWide prog W .any 0 4 (.bool c):=by simp [Value.okWide,underlying4,Cell.okWide,Cell.ok]
theorem Try.own:ownKnob prog.godebug=none:=by kernel_rfl
theorem Try.laidOut:laidOutB prog=true:=by kernel_rfl
end
end Go.Proofs.YthelkgdmgihhiaaGreatDoor
