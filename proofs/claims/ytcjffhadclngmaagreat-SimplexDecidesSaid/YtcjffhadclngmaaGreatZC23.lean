/- Part 23. -/
import Derived.Test.YtcjffhadclngmaaGreatZC22
import Derived.Test.YtcjffhadclngmaaGreatRows
import Derived.ProofKit
import Derived.Below
import Derived.Carry
import Derived.ChangeSame
import Derived.Lib.SmallJoins
open Bool renaming and_eq_true->Ci
open Go.DataW renaming trod->iZ,Trod->jY
open Go.Value renaming okWide->jL
open List renaming mem_append->C5
namespace Go.Proofs.YtcjffhadclngmaaGreat
section
open Go Go.Proofs.Tryz Go.ChangeShapes Go.WideShapes Go.ChangeAt Go.RowKit
set_option maxRecDepth 100000
theorem Avo {f:FuncId} {args:List AV} {W:World} {vs:Array Value} (h:cL prog f args [] [] 0=some (.bool true,[],[],0)) (hv:VRs (C0 W) args vs.toList) :
  Calls prog f vs W fun e w'=>e=.returned (.bool true)/\Below W.heap.size W w':=by
 refine (Age mixed h (C:=C0 W) rfl rfl rfl Aue hv).mono ?_;rintro e w' ⟨v,C',rfl,rfl,hle,-,-,-,-,hr⟩;simp only [VR] at hr;refine ⟨by rw [hr],⟨hle.os,hle.tape,hle.output,hle.size,fun b hb=>hle.keep b hb fun o hm=>Aau hm⟩⟩
def types:List TypeId:=[4,3,9,70,23,25,27,22]
theorem closed:Aee prog types=true:=aI
theorem Asa {n:Int} (h:(Lit.int .i64 n).wf=true):i64 n:=by
 simp only [Lit.wf,Ci,decide_eq_true_eq] at h;exact ⟨h.1,h.2⟩
theorem Anv {avs:List AV} (h:Sh prog 70 avs):∃ c:ByteArray × Int,avs=D2 c/\i64 c.2:=by
 obtain ⟨p0,p1,rfl,h0,h1⟩:=Nt underlying70 h;obtain ⟨s,rfl,-⟩:=Awe underlying9 h0;obtain ⟨n,rfl,hn⟩:=Anw underlying3 h1;exact ⟨(s,n),rfl,Asa hn⟩
theorem Aqz {avs:List AV} (h:Sh prog 23 avs):∃ cs:List (ByteArray × Int),avs=[Ao cs]/\∀ c ∈ cs,i64 c.2:=by
 obtain ⟨es,rfl,h1,-⟩:=Aaf underlying23 h;obtain ⟨cs,rfl,h2⟩:=Ahe (f:=D2) (Q:=fun c=>i64 c.2) fun x hx=>Anv (h1 x hx);exact ⟨cs,rfl,h2⟩
def rowI (r:RowT):Prop:=i64 r.2.1/\∀ c ∈ r.1,i64 c.2
theorem Awd {avs:List AV} (h:Sh prog 27 avs):∃ r:RowT,avs=rowC r/\rowI r:=by
 obtain ⟨p0,p1,rfl,h0,h1⟩:=Nt underlying27 h;obtain ⟨q0,q1,rfl,g0,g1⟩:=Nt underlying25 h0;obtain ⟨cs,rfl,hc⟩:=Aqz g0;obtain ⟨n,rfl,hn⟩:=Anw underlying3 g1;obtain ⟨b,rfl⟩:=At3 underlying4 h1;exact ⟨(cs,n,b),rfl,Asa hn,hc⟩
section
variable {H:Type} {enc:TypeId × Value->H} {w:World} {r:Reach} {b0:Nat} {sp:Nat->Bool} {lp:Bool} {v:Value} {d:DataW H} {p:List MemPlace}
theorem read {t:TypeId} (ht:t ∈ types) (h:jY enc prog w 0 sp lp t v d p):∃ avs,Sh prog t avs/\PRs w (C0 w).Avoid avs v.cells.toList :=
 Atq closed (fun b o v h=>absurd h Ym) ht h
theorem Am4 (hv:jL prog w r b0 22 v) (h:jY enc prog w 0 sp lp 22 v d p):∃ l:List RowT,VR (C0 w) (Ar l) v/\(∀ r ∈ l,rowI r)/\l.length<=maxLen:=by
 obtain ⟨avs,h1,h2⟩:=read (by simp [types]) h;obtain ⟨es,rfl,h3,h5⟩:=Aaf underlying22 h1;obtain ⟨l,rfl,h4⟩:=Ahe (f:=rowC) (Q:=rowI) fun x hx=>Awd (h3 x hx);obtain ⟨a,n,c,rfl⟩:=okWide_slice underlying22 hv;exact ⟨l,Avu rfl h2,h4,by simpa using h5⟩
end
section
variable {H:Type} {enc:TypeId × Value->H} {P:Program}
theorem Z1 {f:Func} {s:ChangeSpec} {apart fresh a1z again:Bool} {W W':World} {args:Array Value} {v:Value} {ds gs:List (DataW H)} {before pa pv:List MemPlace}
  (hW:DataW.Whole enc P f.params.toList s.vars apart W args.toList ds gs before)
  (l9:∀ (b:Nat) (sp:Nat->Bool) (hd:Bool),DataW.TrodAll enc P W' b sp hd f.resultTypes.toList (v.resultList f.resultTypes.size) (s.fn H (ds++gs)).results [])
  (ab:∀ sp:Nat->Bool,(∀ p ∈ before,sp p.block=true)->DataW.TrodAll enc P W' 0 sp true f.params.toList args.toList (s.fn H (ds++gs)).args pa)
  (a2d:∀ sp:Nat->Bool,(∀ p ∈ before,sp p.block=true)->DataW.TrodVars enc P W' sp s.vars (s.fn H (ds++gs)).vars pv)
  (tq:before=pa++pv) (hb:Below W.heap.size W W')
  (ah:∀ (j:Nat) (t:TypeId) (r:Value),f.resultTypes[j]?=some t->(v.resultList f.resultTypes.size)[j]?=some r->jL P W' .any 0 t r) :
  s.post enc P f apart fresh a1z again W args v W':=by
 have hlt:∀ p ∈ before,p.block<W.heap.size:=fun p hp=>hW.lt p hp;have ji:∀ p ∈ before,(fun b=>decide (b<W.heap.size)) p.block=true:=fun p hp=>by simpa using hlt p hp
 refine ⟨ds,gs,before,[],pa,pv,hW,l9 _ _ _,ab _ ji,a2d _ ji,World.keptBut_mono (fun p hp=>⟨hp,?_⟩) (hb.frame (· ∈ before)),fun _=>?_⟩
 ·rw [tq,C5] at hp;exact Or.inr hp
 ·obtain ⟨_,_,_,_,_,hz,hn⟩:=hW;refine ⟨ah,_,_,([]++pa)++pv,⟨[]++pa,pv,trodAll_append (ab _ (fun _ _=>rfl)) (l9 _ _ _),a2d _ (fun _ _=>rfl),rfl,?_,?_⟩,?_⟩
  ·intro b off hp;have gd:MemPlace.cell b off ∈ before:=by rw [tq]; simpa using hp
   rw [hb.frozen (hlt _ gd)];exact hz b off gd
  ·intro ha;have:=hn ha;rw [tq] at this;exact Ya1d
  ·intro p hp _;rw [tq];simpa using hp
end
theorem Anz {H:Type} {enc:TypeId × Value->H} {W:World} {base:Nat} {sp:Nat->Bool} {lp:Bool} (b:Bool):jY enc prog W base sp lp 4 (.bool b) (.lit (.bool b)) []:=⟨1,by simp [iZ,Value.cells,underlying4]⟩
theorem Ae9 {W:World} (c:Bool):jL prog W .any 0 4 (.bool c):=by simp [jL,underlying4,Cell.okWide,Cell.ok]
theorem Try.own:ownKnob prog.godebug=none:=aI
theorem Try.laidOut:laidOutB prog=true:=aI
end
end Go.Proofs.YtcjffhadclngmaaGreat
