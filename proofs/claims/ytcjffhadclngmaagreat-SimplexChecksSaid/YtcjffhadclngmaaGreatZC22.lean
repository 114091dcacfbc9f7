/- CLift -/
import Derived.Test.YtcjffhadclngmaaGreatZC21
import Derived.Test.YtcjffhadclngmaaGreatZC15
import Derived.Test.YtcjffhadclngmaaGreatRows
import Derived.ProofKit
import Derived.Below
import Derived.Carry
import Derived.ChangeSame
import Derived.Lib.SmallJoins
namespace Go.Proofs.YtcjffhadclngmaaGreat
open Go Go.ChangeShapes Go.WideShapes Go.ChangeAt Go.RowKit
theorem Af0 {f:FuncId} {args:List AV} {W:World} {vs:Array Value} (h:cL Tryz.prog f args [] [] 0=some (.bool true,[],[],0)) (hv:VRs (C0 W) args vs.toList) :
  Calls Tryz.prog f vs W fun e w'=>e=.returned (.bool true)∧Below W.heap.size W w':=by
 refine (Vz mixed h (C:=C0 W) rfl rfl rfl Agb hv).mono ?_
 rintro e w' ⟨v,C',rfl,rfl,hle,-,-,-,-,hr⟩
 simp only [VR] at hr
 refine ⟨by rw [hr],⟨hle.os,hle.tape,hle.output,hle.size,fun b hb=>hle.keep b hb fun o hm=>Ru hm⟩⟩
def types:List TypeId:=[4,3,9,70,23,25,27,22]
set_option maxRecDepth 100000 in
theorem closed:U8 Tryz.prog types=true:=by kernel_rfl
theorem Adk {n:Int} (h:(Lit.int .i64 n).wf=true):i64 n:=by
 simp only [Lit.wf,Bool.and_eq_true,decide_eq_true_eq] at h
 exact ⟨h.1,h.2⟩
set_option maxRecDepth 100000 in
theorem Aef {avs:List AV} (h:Sh Tryz.prog 70 avs):∃ c:ByteArray × Int,avs=Gc c∧i64 c.2:=by
 obtain ⟨p0,p1,rfl,h0,h1⟩:=L5 Tryz.underlying70 h
 obtain ⟨s,rfl,-⟩:=Ag1 Tryz.underlying9 h0
 obtain ⟨n,rfl,hn⟩:=Ad1 Tryz.underlying3 h1
 exact ⟨(s,n),rfl,Adk hn⟩
set_option maxRecDepth 100000 in
theorem Ab1 {avs:List AV} (h:Sh Tryz.prog 23 avs):∃ cs:List (ByteArray × Int),avs=[Bn cs]∧∀ c ∈ cs,i64 c.2:=by
 obtain ⟨es,rfl,h1,-⟩:=Wq Tryz.underlying23 h
 obtain ⟨cs,rfl,h2⟩:=Aa5 (f:=Gc) (Q:=fun c=>i64 c.2) fun x hx=>Aef (h1 x hx)
 exact ⟨cs,rfl,h2⟩
def rowI (r:RowT):Prop:=i64 r.2.1∧∀ c ∈ r.1,i64 c.2
set_option maxRecDepth 100000 in
theorem Ahb {avs:List AV} (h:Sh Tryz.prog 27 avs):∃ r:RowT,avs=rowC r∧rowI r:=by
 obtain ⟨p0,p1,rfl,h0,h1⟩:=L5 Tryz.underlying27 h
 obtain ⟨q0,q1,rfl,g0,g1⟩:=L5 Tryz.underlying25 h0
 obtain ⟨cs,rfl,hc⟩:=Ab1 g0
 obtain ⟨n,rfl,hn⟩:=Ad1 Tryz.underlying3 g1
 obtain ⟨b,rfl⟩:=Aeq Tryz.underlying4 h1
 exact ⟨(cs,n,b),rfl,Adk hn,hc⟩
section
variable {H:Type} {enc:TypeId × Value→H} {w:World} {r:Reach} {b0:Nat} {sp:Nat→Bool} {held:Bool} {v:Value} {d:DataW H} {p:List MemPlace}
set_option maxRecDepth 100000 in
theorem read {t:TypeId} (ht:t ∈ types) (h:DataW.Trod enc Tryz.prog w 0 sp held t v d p):∃ avs,Sh Tryz.prog t avs∧PRs w (C0 w).Avoid avs v.cells.toList :=
 Afb closed (fun b o v h=>absurd h Qj) ht h
set_option maxRecDepth 100000 in
theorem Z6 (hv:Value.okWide Tryz.prog w r b0 22 v) (h:DataW.Trod enc Tryz.prog w 0 sp held 22 v d p):∃ l:List RowT,VR (C0 w) (Bh l) v∧(∀ r ∈ l,rowI r)∧l.length≤maxLen:=by
 obtain ⟨avs,h1,h2⟩:=read (by simp [types]) h
 obtain ⟨es,rfl,h3,h5⟩:=Wq Tryz.underlying22 h1
 obtain ⟨l,rfl,h4⟩:=Aa5 (f:=rowC) (Q:=rowI) fun x hx=>Ahb (h3 x hx)
 obtain ⟨a,n,c,rfl⟩:=okWide_slice Tryz.underlying22 hv
 exact ⟨l,Aha rfl h2,h4,by simpa using h5⟩
end
section
variable {H:Type} {enc:TypeId × Value→H} {P:Program}
theorem Qn {f:Func} {s:ChangeSpec} {apart fresh handsOn again:Bool} {W W':World} {args:Array Value} {v:Value} {ds gs:List (DataW H)} {before pa pv:List MemPlace}
  (hW:DataW.Whole enc P f.params.toList s.vars apart W args.toList ds gs before)
  (hres:∀ (b:Nat) (sp:Nat→Bool) (hd:Bool),DataW.TrodAll enc P W' b sp hd f.resultTypes.toList (v.resultList f.resultTypes.size) (s.fn H (ds++gs)).results [])
  (hargs:∀ sp:Nat→Bool,(∀ p ∈ before,sp p.block=true)→DataW.TrodAll enc P W' 0 sp true f.params.toList args.toList (s.fn H (ds++gs)).args pa)
  (hvars:∀ sp:Nat→Bool,(∀ p ∈ before,sp p.block=true)→DataW.TrodVars enc P W' sp s.vars (s.fn H (ds++gs)).vars pv)
  (hps:before=pa++pv) (hb:Below W.heap.size W W')
  (hok:∀ (j:Nat) (t:TypeId) (r:Value),f.resultTypes[j]?=some t→(v.resultList f.resultTypes.size)[j]?=some r→Value.okWide P W' .any 0 t r) :
  s.post enc P f apart fresh handsOn again W args v W':=by
 have hlt:∀ p ∈ before,p.block<W.heap.size:=fun p hp=>hW.lt p hp
 have hold:∀ p ∈ before,(fun b=>decide (b<W.heap.size)) p.block=true:=fun p hp=>by simpa using hlt p hp
 refine ⟨ds,gs,before,[],pa,pv,hW,hres _ _ _,hargs _ hold,hvars _ hold,World.keptBut_mono (fun p hp=>⟨hp,?_⟩) (hb.frame (· ∈ before)),fun _=>?_⟩
 ·rw [hps,List.mem_append] at hp
  exact Or.inr hp
 ·obtain ⟨_,_,_,_,_,hz,hn⟩:=hW
  refine ⟨hok,_,_,([]++pa)++pv,⟨[]++pa,pv,trodAll_append (hargs _ (fun _ _=>rfl)) (hres _ _ _),hvars _ (fun _ _=>rfl),rfl,?_,?_⟩,?_⟩
  ·intro b off hp
   have hin:MemPlace.cell b off ∈ before:=by rw [hps]; simpa using hp
   rw [hb.frozen (hlt _ hin)]
   exact hz b off hin
  ·intro ha
   have:=hn ha
   rw [hps] at this
   simpa using this
  ·intro p hp _
   rw [hps]
   simpa using hp
end
set_option maxRecDepth 100000 in
theorem Zb {H:Type} {enc:TypeId × Value→H} {W:World} {base:Nat} {sp:Nat→Bool} {held:Bool} (b:Bool):DataW.Trod enc Tryz.prog W base sp held 4 (.bool b) (.lit (.bool b)) []:=⟨1,by simp [DataW.trod,Value.cells,Tryz.underlying4]⟩
set_option maxRecDepth 100000 in
theorem Vt {W:World} (c:Bool):Value.okWide Tryz.prog W .any 0 4 (.bool c):=by simp [Value.okWide,Tryz.underlying4,Cell.okWide,Cell.ok]
theorem Try.own:ownKnob Tryz.prog.godebug=none:=by kernel_rfl
theorem Try.laidOut:laidOutB Tryz.prog=true:=by kernel_rfl
end Go.Proofs.YtcjffhadclngmaaGreat
