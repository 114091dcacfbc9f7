/- Part 22. -/
import Derived.Test.YtcandeobhlfkbaaGreatZM21
import Derived.Test.YtcandeobhlfkbaaGreatRows
import Derived.ProofKit
import Derived.Below
import Derived.Carry
import Derived.ChangeSame
import Derived.Lib.SmallJoins
namespace Go.Proofs.YtcandeobhlfkbaaGreat
section
open Go Go.Proofs.Tryz Go.ChangeShapes Go.WideShapes Go.ChangeAt Go.RowKit
theorem Ap0 {f:FuncId} {args:List AV} {W:World} {vs:Array Value} (h:cL prog f args [] [] 0=some (.bool true,[],[],0)) (hv:VRs (C0 W) args vs.toList) :
  Calls prog f vs W fun e w'=>e=.returned (.bool true)/\Below W.heap.size W w':=by
 refine (U3 mixed h (C:=C0 W) rfl rfl rfl Aow hv).mono ?_
 rintro e w' ⟨v,C',rfl,rfl,hle,-,-,-,-,hr⟩
 simp only [VR] at hr
 refine ⟨by rw [hr],⟨hle.os,hle.tape,hle.output,hle.size,fun b hb=>hle.keep b hb fun o hm=>Wi hm⟩⟩
def types:List TypeId:=[4,3,9,48,25,36,38,22]
set_option maxRecDepth 100000 in
theorem closed:Ze prog types=true:=by kernel_rfl
theorem Aja {n:Int} (h:(Lit.int .i64 n).wf=true):i64 n:=by
 simp only [Lit.wf,Bool.and_eq_true,decide_eq_true_eq] at h
 exact ⟨h.1,h.2⟩
set_option maxRecDepth 100000 in
theorem Aoo {avs:List AV} (h:Sh prog 48 avs):∃ c:ByteArray × Int,avs=A1 c/\i64 c.2:=by
 obtain ⟨p0,p1,rfl,h0,h1⟩:=Nr underlying48 h
 obtain ⟨s,rfl,-⟩:=Aqd underlying9 h0
 obtain ⟨n,rfl,hn⟩:=Amj underlying3 h1
 exact ⟨(s,n),rfl,Aja hn⟩
set_option maxRecDepth 100000 in
theorem Alk {avs:List AV} (h:Sh prog 25 avs):∃ cs:List (ByteArray × Int),avs=[Aa cs]/\∀ c ∈ cs,i64 c.2:=by
 obtain ⟨es,rfl,h1,-⟩:=Acx underlying25 h
 obtain ⟨cs,rfl,h2⟩:=Ahs (f:=A1) (Q:=fun c=>i64 c.2) fun x hx=>Aoo (h1 x hx)
 exact ⟨cs,rfl,h2⟩
def rowI (r:RowT):Prop:=i64 r.2.1/\∀ c ∈ r.1,i64 c.2
set_option maxRecDepth 100000 in
theorem Aqc {avs:List AV} (h:Sh prog 38 avs):∃ r:RowT,avs=rowC r/\rowI r:=by
 obtain ⟨p0,p1,rfl,h0,h1⟩:=Nr underlying38 h
 obtain ⟨q0,q1,rfl,g0,g1⟩:=Nr underlying36 h0
 obtain ⟨cs,rfl,hc⟩:=Alk g0
 obtain ⟨n,rfl,hn⟩:=Amj underlying3 g1
 obtain ⟨b,rfl⟩:=Aon underlying4 h1
 exact ⟨(cs,n,b),rfl,Aja hn,hc⟩
section
variable {H:Type} {enc:TypeId × Value->H} {w:World} {r:Go.Reach} {b0:Nat} {sp:Nat->Bool} {d7:Bool} {v:Value} {d:DataW H} {p:List MemPlace}
set_option maxRecDepth 100000 in
theorem read {t:TypeId} (ht:t ∈ types) (h:DataW.Trod enc prog w 0 sp d7 t v d p):∃ avs,Sh prog t avs/\PRs w (C0 w).Avoid avs v.cells.toList :=
 Aoc closed (fun b o v h=>absurd h Ue) ht h
set_option maxRecDepth 100000 in
theorem Ah0 (hv:Value.okWide prog w r b0 22 v) (h:DataW.Trod enc prog w 0 sp d7 22 v d p):∃ l:List RowT,VR (C0 w) (Aj l) v/\(∀ r ∈ l,rowI r)/\l.length<=maxLen:=by
 obtain ⟨avs,h1,h2⟩:=read (by simp [types]) h
 obtain ⟨es,rfl,h3,h5⟩:=Acx underlying22 h1
 obtain ⟨l,rfl,h4⟩:=Ahs (f:=rowC) (Q:=rowI) fun x hx=>Aqc (h3 x hx)
 obtain ⟨a,n,c,rfl⟩:=okWide_slice underlying22 hv
 exact ⟨l,Ap4 rfl h2,h4,by simpa using h5⟩
set_option maxRecDepth 100000 in
theorem Ak5 (hv:Value.okWide prog w r b0 3 v) (h:DataW.Trod enc prog w 0 sp d7 3 v d p):∃ n:Int,VR (C0 w) (.prim (.int .i64 n)) v/\i64 n:=by
 obtain ⟨k,rfl⟩:=okWide_int underlying3 hv
 obtain ⟨fuel,hf⟩:=h
 obtain ⟨k',hk,-,hw⟩:=DataW.trod_int underlying3 hf
 have e:k=k':=by simpa [Value.cells] using hk
 subst e
 exact ⟨k,by simp only [VR],Aja hw⟩
end
section
variable {H:Type} {enc:TypeId × Value->H} {P:Program}
theorem Vt {f:Func} {s:ChangeSpec} {apart fresh om again:Bool} {W W':World} {args:Array Value} {v:Value} {ds gs:List (DataW H)} {before pa pv:List MemPlace}
  (hW:DataW.Whole enc P f.params.toList s.vars apart W args.toList ds gs before)
  (wu:∀ (b:Nat) (sp:Nat->Bool) (hd:Bool),DataW.TrodAll enc P W' b sp hd f.resultTypes.toList (v.resultList f.resultTypes.size) (s.fn H (ds++gs)).results [])
  (aa:∀ sp:Nat->Bool,(∀ p ∈ before,sp p.block=true)->DataW.TrodAll enc P W' 0 sp true f.params.toList args.toList (s.fn H (ds++gs)).args pa)
  (p7:∀ sp:Nat->Bool,(∀ p ∈ before,sp p.block=true)->DataW.TrodVars enc P W' sp s.vars (s.fn H (ds++gs)).vars pv)
  (jo:before=pa++pv) (hb:Below W.heap.size W W')
  (hok:∀ (j:Nat) (t:TypeId) (r:Value),f.resultTypes[j]?=some t->(v.resultList f.resultTypes.size)[j]?=some r->Value.okWide P W' .any 0 t r) :
  s.post enc P f apart fresh om again W args v W':=by
 have hlt:∀ p ∈ before,p.block<W.heap.size:=fun p hp=>hW.lt p hp
 have ci:∀ p ∈ before,(fun b=>decide (b<W.heap.size)) p.block=true:=fun p hp=>by simpa using hlt p hp
 refine ⟨ds,gs,before,[],pa,pv,hW,wu _ _ _,aa _ ci,p7 _ ci,World.keptBut_mono (fun p hp=>⟨hp,?_⟩) (hb.frame (· ∈ before)),fun _=>?_⟩
 ·rw [jo,List.mem_append] at hp
  exact Or.inr hp
 ·obtain ⟨_,_,_,_,_,hz,hn⟩:=hW
  refine ⟨hok,_,_,([]++pa)++pv,⟨[]++pa,pv,trodAll_append (aa _ (fun _ _=>rfl)) (wu _ _ _),p7 _ (fun _ _=>rfl),rfl,?_,?_⟩,?_⟩
  ·intro b off hp
   have c7:MemPlace.cell b off ∈ before:=by rw [jo]; simpa using hp
   rw [hb.frozen (hlt _ c7)]
   exact hz b off c7
  ·intro ha
   have:=hn ha
   rw [jo] at this
   simpa using this
  ·intro p hp _
   rw [jo]
   simpa using hp
end
set_option maxRecDepth 100000 in
theorem Aip {H:Type} {enc:TypeId × Value->H} {W:World} {base:Nat} {sp:Nat->Bool} {d7:Bool} (b:Bool):DataW.Trod enc prog W base sp d7 4 (.bool b) (.lit (.bool b)) []:=⟨1,by simp [DataW.trod,Value.cells,underlying4]⟩
set_option maxRecDepth 100000 in
theorem Z4 {W:World} (c:Bool):Value.okWide prog W .any 0 4 (.bool c):=by simp [Value.okWide,underlying4,Cell.okWide,Cell.ok]
theorem Try.own:ownKnob prog.godebug=none:=by kernel_rfl
theorem Try.laidOut:laidOutB prog=true:=by kernel_rfl
end
end Go.Proofs.YtcandeobhlfkbaaGreat
