/- Part 23. -/
import Derived.Test.YthelkgdmgihhiaaGreatZW22
import Derived.Test.YthelkgdmgihhiaaGreatRows
import Derived.ProofKit
import Derived.Below
import Derived.Carry
import Derived.ChangeSame
import Derived.Lib.SmallJoins
namespace Go.Proofs.YthelkgdmgihhiaaGreat
section
open Go Go.Proofs.Tryz Go.ChangeShapes Go.WideShapes Go.ChangeAt Go.RowKit
theorem Zr {f:FuncId} {args:List AV} {W:World} {vs:Array Value} (h:cL prog f args [] [] 0=some (.bool true,[],[],0)) (hv:VRs (C0 W) args vs.toList) :
  Calls prog f vs W fun e w'=>e=.returned (.bool true)/\Below W.heap.size W w':=by
 refine (Pz mixed h (C:=C0 W) rfl rfl rfl Yw hv).mono ?_
 rintro e w' ⟨v,C',rfl,rfl,hle,-,-,-,-,hr⟩
 simp only [VR] at hr
 refine ⟨by rw [hr],⟨hle.os,hle.tape,hle.output,hle.size,fun b hb=>hle.keep b hb fun o hm=>L9 hm⟩⟩
def types:List TypeId:=[4,3,9,67,23,28,30,22,24]
set_option maxRecDepth 100000 in
theorem closed:Ny prog types=true:=by kernel_rfl
theorem Xq {n:Int} (h:(Lit.int .i64 n).wf=true):i64 n:=by
 simp only [Lit.wf,Bool.and_eq_true,decide_eq_true_eq] at h
 exact ⟨h.1,h.2⟩
set_option maxRecDepth 100000 in
theorem Yr {avs:List AV} (h:Sh prog 67 avs):∃ c:ByteArray × Int,avs=Dm c/\i64 c.2:=by
 obtain ⟨p0,p1,rfl,h0,h1⟩:=Hy underlying67 h
 obtain ⟨s,rfl,-⟩:=Zz underlying9 h0
 obtain ⟨n,rfl,hn⟩:=Xo underlying3 h1
 exact ⟨(s,n),rfl,Xq hn⟩
set_option maxRecDepth 100000 in
theorem W0 {avs:List AV} (h:Sh prog 23 avs):∃ cs:List (ByteArray × Int),avs=[Ar cs]/\∀ c ∈ cs,i64 c.2:=by
 obtain ⟨es,rfl,h1,-⟩:=W1 underlying23 h
 obtain ⟨cs,rfl,h2⟩:=Xk (f:=Dm) (Q:=fun c=>i64 c.2) fun x hx=>Yr (h1 x hx)
 exact ⟨cs,rfl,h2⟩
def rowI (r:RowT):Prop:=i64 r.2.1/\∀ c ∈ r.1,i64 c.2
set_option maxRecDepth 100000 in
theorem Zy {avs:List AV} (h:Sh prog 30 avs):∃ r:RowT,avs=rowC r/\rowI r:=by
 obtain ⟨p0,p1,rfl,h0,h1⟩:=Hy underlying30 h
 obtain ⟨q0,q1,rfl,g0,g1⟩:=Hy underlying28 h0
 obtain ⟨cs,rfl,hc⟩:=W0 g0
 obtain ⟨n,rfl,hn⟩:=Xo underlying3 g1
 obtain ⟨b,rfl⟩:=Yq underlying4 h1
 exact ⟨(cs,n,b),rfl,Xq hn,hc⟩
section
variable {H:Type} {enc:TypeId × Value->H} {w:World} {r:Go.Reach} {b0:Nat} {sp:Nat->Bool} {ci:Bool} {v:Value} {d:DataW H} {p:List MemPlace}
set_option maxRecDepth 100000 in
theorem read {t:TypeId} (ht:t ∈ types) (h:DataW.Trod enc prog w 0 sp ci t v d p):∃ avs,Sh prog t avs/\PRs w (C0 w).Avoid avs v.cells.toList :=
 Yo closed (fun b o v h=>absurd h Lg) ht h
set_option maxRecDepth 100000 in
theorem Ws (hv:Value.okWide prog w r b0 30 v) (h:DataW.Trod enc prog w 0 sp ci 30 v d p):∃ r:RowT,VR (C0 w) (.agg (rowC r)) v:=by
 obtain ⟨xs,rfl,-⟩:=okWide_struct underlying30 hv
 obtain ⟨avs,h1,h2⟩:=read (by simp [types]) h
 obtain ⟨r,rfl,-⟩:=Zy h1
 exact ⟨r,Zc h2⟩
end
section
variable {H:Type} {enc:TypeId × Value->H} {P:Program}
theorem L3 {f:Func} {s:ChangeSpec} {apart fresh ig again:Bool} {W W':World} {args:Array Value} {v:Value} {ds gs:List (DataW H)} {before pa pv:List MemPlace}
  (hW:DataW.Whole enc P f.params.toList s.vars apart W args.toList ds gs before)
  (k7:∀ (b:Nat) (sp:Nat->Bool) (hd:Bool),DataW.TrodAll enc P W' b sp hd f.resultTypes.toList (v.resultList f.resultTypes.size) (s.fn H (ds++gs)).results [])
  (aa:∀ sp:Nat->Bool,(∀ p ∈ before,sp p.block=true)->DataW.TrodAll enc P W' 0 sp true f.params.toList args.toList (s.fn H (ds++gs)).args pa)
  (iy:∀ sp:Nat->Bool,(∀ p ∈ before,sp p.block=true)->DataW.TrodVars enc P W' sp s.vars (s.fn H (ds++gs)).vars pv)
  (eu:before=pa++pv) (hb:Below W.heap.size W W')
  (ag:∀ (j:Nat) (t:TypeId) (r:Value),f.resultTypes[j]?=some t->(v.resultList f.resultTypes.size)[j]?=some r->Value.okWide P W' .any 0 t r) :
  s.post enc P f apart fresh ig again W args v W':=by
 have hlt:∀ p ∈ before,p.block<W.heap.size:=fun p hp=>hW.lt p hp
 have bt:∀ p ∈ before,(fun b=>decide (b<W.heap.size)) p.block=true:=fun p hp=>by simpa using hlt p hp
 refine ⟨ds,gs,before,[],pa,pv,hW,k7 _ _ _,aa _ bt,iy _ bt,World.keptBut_mono (fun p hp=>⟨hp,?_⟩) (hb.frame (· ∈ before)),fun _=>?_⟩
 ·rw [eu,List.mem_append] at hp
  exact Or.inr hp
 ·obtain ⟨_,_,_,_,_,hz,hn⟩:=hW
  refine ⟨ag,_,_,([]++pa)++pv,⟨[]++pa,pv,trodAll_append (aa _ (fun _ _=>rfl)) (k7 _ _ _),iy _ (fun _ _=>rfl),rfl,?_,?_⟩,?_⟩
  ·intro b off hp
   have b4:MemPlace.cell b off ∈ before:=by rw [eu]; simpa using hp
   rw [hb.frozen (hlt _ b4)]
   exact hz b off b4
  ·intro ha
   have:=hn ha
   rw [eu] at this
   simpa using this
  ·intro p hp _
   rw [eu]
   simpa using hp
end
set_option maxRecDepth 100000 in
theorem U5 {H:Type} {enc:TypeId × Value->H} {W:World} {base:Nat} {sp:Nat->Bool} {ci:Bool} (b:Bool):DataW.Trod enc prog W base sp ci 4 (.bool b) (.lit (.bool b)) []:=⟨1,by simp [DataW.trod,Value.cells,underlying4]⟩
set_option maxRecDepth 100000 in
theorem Pd {W:World} (c:Bool):Value.okWide prog W .any 0 4 (.bool c):=by simp [Value.okWide,underlying4,Cell.okWide,Cell.ok]
theorem Try.own:ownKnob prog.godebug=none:=by kernel_rfl
theorem Try.laidOut:laidOutB prog=true:=by kernel_rfl
end
section
open Go
end
section
open Go
end
section
open Go
end
section
open Go
theorem K0 {n:Int} : ∀ {p:Option ByteArray} {cs:List (ByteArray × Int)},Ae n p cs=0->(∀ c ∈ cs,inB c.2=true/\c.2≠0)/\inB n=true
 | p,[],h=>by
  simp only [Ae] at h
  refine ⟨by simp,?_⟩
  cases hn:inB n with
  | true=>rfl
  | false=>rw [hn] at h; simp at h
 | p,c :: cs,h=>by
  simp only [Ae] at h
  split at h
  ·simp at h
  ·split at h
   ·simp at h
   ·rename_i h1
    split at h
    ·simp at h
    ·obtain ⟨g1,g2⟩:=K0 h
     refine ⟨fun d hd=>?_,g2⟩
     rcases List.mem_cons.1 hd with rfl|hd
     ·simp at h1; exact ⟨h1.2,h1.1⟩
     ·exact g1 d hd
theorem P0 {cs:List (ByteArray × Int)} {n:Int} (h:B8 cs n=0):(∀ c ∈ cs,inB c.2=true/\c.2≠0)/\inB n=true/\cs.length<=24:=by
 unfold B8 at h
 split at h
 ·simp at h
 ·obtain ⟨h1,h2⟩:=K0 h
  exact ⟨h1,h2,by omega⟩
inductive PT where
 | node (op:Int) (name:ByteArray) (n:Int) (kids:List PT)
mutual
def predC:PT->List AV
 | .node o s n ks=>[.prim (.int .i64 o),.prim (.string s),.prim (.int .i64 n),.frz (Bq ks) .unk]
def Bq:List PT->List (List AV)
 | []=>[]
 | k :: ks=>predC k :: Bq ks
end
theorem J7:∀ ks:List PT,Bq ks=ks.map predC
 | []=>rfl
 | k :: ks=>by rw [Bq,List.map_cons,J7 ks]
theorem Kb:∀ p:PT,(predC p).length=4
 | .node _ _ _ _=>rfl
def PT.op:PT->Int|.node o _ _ _=>o
def PT.name:PT->ByteArray|.node _ s _ _=>s
def PT.n:PT->Int|.node _ _ n _=>n
def PT.kids:PT->List PT|.node _ _ _ ks=>ks
theorem Ac (q:PT):predC q=[.prim (.int .i64 q.op),.prim (.string q.name),.prim (.int .i64 q.n),.frz (Bq q.kids) .unk]:=by cases q; rfl
theorem Wr {ks:List PT} {j:Nat} {q:PT} (h:nth ks j=some q):nth (Bq ks) j=some (predC q):=by rw [J7,Db,h]; rfl
theorem Ew (ks:List PT):(Bq ks).length=ks.length:=by rw [J7,List.length_map]
def bE:ByteArray:=⟨#[]⟩
mutual
def D5:PT->Prop
 | .node _ _ _ ks=>ks.length<=1000/\Gq ks
def Gq:List PT->Prop
 | []=>True
 | k :: ks=>D5 k/\Gq ks
end
def Er (n:Int) (s:ByteArray):PT:=if n=1 then .node 3 s 0 [] else .node 8 bE 0 [.node 1 bE n [],.node 3 s 0 []]
def sumT:PT->List PT->PT
 | x,[]=>x
 | x,y :: r=>sumT (.node 6 bE 0 [x,y]) r
def sumL:List PT->PT
 | []=>.node 1 bE 0 []
 | x :: r=>sumT x r
def sideF (g:Int):List (ByteArray × Int)->List PT
 | []=>[]
 | c :: cs=>if 0<c.2*g then Er (c.2*g) c.1 :: sideF g cs else sideF g cs
def conF (g n:Int):List PT:=if 0<n*g then [.node 1 bE (n*g) []] else []
def sidesF (g:Int) (cs:List (ByteArray × Int)) (n:Int):List PT:=sideF g cs++conF g n
def Hb (r:RowT):PT:=if B8 r.1 r.2.1=0 then .node (if r.2.2=true then 10 else 13) bE 0 [sumL (sidesF 1 r.1 r.2.1),sumL (sidesF (-1) r.1 r.2.1)] else .node 13 bE 0 [.node 1 bE 0 [],.node 1 bE 0 []]
theorem Dj {g:Int} {c:ByteArray × Int} : ∀ {cs:List (ByteArray × Int)},sideF g (cs++[c])=sideF g cs++(if 0<c.2*g then [Er (c.2*g) c.1] else [])
 | []=>by simp [sideF]
 | d :: cs=>by
  rw [List.cons_append,sideF,sideF,Dj]
  split <;> rfl
theorem Hg {g:Int} : ∀ {cs:List (ByteArray × Int)},(sideF g cs).length<=cs.length
 | []=>Nat.le_refl _
 | c :: cs=>by
  have:=Hg (g:=g) (cs:=cs)
  rw [sideF]
  split <;> simp <;> omega
theorem Ld {g n:Int} {cs:List (ByteArray × Int)} : (sidesF g cs n).length<=cs.length+1:=by
 have:=Hg (g:=g) (cs:=cs)
 unfold sidesF conF
 split <;> simp <;> omega
def sumO:Option PT->List PT->Option PT
 | o,[]=>o
 | none,x :: r=>sumO (some x) r
 | some x,y :: r=>sumO (some (.node 6 bE 0 [x,y])) r
theorem Nn:∀ (r:List PT) (x:PT),sumO (some x) r=some (sumT x r)
 | [],_=>rfl
 | y :: r,x=>by rw [sumO,sumT,Nn r]
theorem W2 (l:List PT):(sumO none l).getD (.node 1 bE 0 [])=sumL l:=by
 cases l with
 | nil=>rfl
 | cons x r=>rw [sumO,Nn]; rfl
def addO:Option PT->PT->PT
 | none,y=>y
 | some x,y=>.node 6 bE 0 [x,y]
theorem Hi:∀ (l:List PT) (o:Option PT) (y:PT),sumO o (l++[y])=some (addO (sumO o l) y)
 | [],none,_=>rfl
 | [],some _,_=>rfl
 | x :: l,none,y=>by rw [List.cons_append,sumO,sumO,Hi l]
 | x :: l,some z,y=>by rw [List.cons_append,sumO,sumO,Hi l]
theorem Rc (n:Int) (s:ByteArray):D5 (Er n s):=by unfold Er; split <;> simp [D5,Gq]
theorem M7:∀ (r:List PT) (x:PT),D5 x->(∀ y ∈ r,D5 y)->D5 (sumT x r)
 | [],x,h,_=>h
 | y :: r,x,h,hr=>M7 r _ (by simp only [D5,Gq]; exact ⟨by simp,h,hr y (List.mem_cons_self ..),trivial⟩) fun z hz=>hr z (List.mem_cons_of_mem _ hz)
theorem K5 {l:List PT} (h:∀ y ∈ l,D5 y):D5 (sumL l):=by
 cases l with
 | nil=>simp [sumL,D5,Gq]
 | cons x r=>exact M7 r x (h x (List.mem_cons_self ..)) fun y hy=>h y (List.mem_cons_of_mem _ hy)
theorem Ht {g:Int} : ∀ {cs:List (ByteArray × Int)},∀ y ∈ sideF g cs,D5 y
 | [],y,h=>by cases h
 | c :: cs,y,h=>by
  rw [sideF] at h
  split at h
  ·rcases List.mem_cons.1 h with rfl|h
   ·exact Rc _ _
   ·exact Ht y h
  ·exact Ht y h
theorem J8 {g n:Int} {cs:List (ByteArray × Int)} : ∀ y ∈ sidesF g cs n,D5 y:=fun y h=>by
 unfold sidesF conF at h
 rcases List.mem_append.1 h with h|h
 ·exact Ht y h
 ·split at h
  ·rw [List.mem_singleton.1 h]; simp [D5,Gq]
  ·cases h
theorem N7 (r:RowT):D5 (Hb r):=by
 unfold Hb
 split
 ·simp only [D5,Gq]
  exact ⟨by simp,K5 J8,K5 J8,trivial⟩
 ·simp [D5,Gq]
end
section
open Go Go.Proofs.Tryz
theorem sl_tl {P:Program} {t:TypeId} {sz:Nat} {es:List (List AV)} {c:Cap} (hs:(Aq P t).bind (szOf P)=some sz) (hr:B1 sz es=true) (h:1<=es.length):Hh P t (.frz es c) (some (.prim (.int .i64 1))) none none=some (.frz (es.drop 1) .unk):=by
 have e:bound es.length (some (.prim (.int .i64 1))) 0=some 1:=by
  show (if 1<=es.length then some 1 else none)=some 1
  rw [if_pos h]
 have e2:bound es.length (none:Option AV) es.length=some es.length:=rfl
 simp only [Hh,hs,hr,if_true,e2,e,List.take_length]
section
variable (S:List Ent) (tk:List Nat) (k:Nat)
theorem J4 (n:Int) (s:ByteArray):cL prog 38 [.int n,.str s] S tk k=some (.agg (predC (Er n s)),S,tk,k):=by
 unfold Er
 refine opP func38 ntmps38 (hp3:=by split <;> rfl) ?_
 by_cases h:n=1
 ·have d:(n == 1)=true:=by simpa using h
  rw [if_pos h]
  simp (maxSteps:=10^6)+contextual(disch:=try exact dqd)only[ev1,simprocAttr,AV.int,AV.bool,AV.str,results38,d,predC,Bq,bE]
 ·have d:(n == 1)=false:=by simpa using h
  rw [if_neg h]
  simp (maxSteps:=10^6)+contextual(disch:=try exact dqd)only[ev1,simprocAttr,AV.int,AV.bool,AV.str,results38,d,predC,Bq,bE]
set_option maxRecDepth 100000 in
theorem Gv (l:List PT) (hl:l.length<=1000):cL prog 39 [.frz (l.map predC) .unk] S tk k=some (.agg (predC (sumL l)),S,tk,k):=by
 rw [Ac]
 refine opP func39 ntmps39 (hp3:=rfl) ?_
 cases l with
 | nil =>
  have d:(((0:Nat):Int) == 0)=true:=rfl
  simp (maxSteps:=10^6)+contextual(disch:=try exact dqd)only[ev1,simprocAttr,AV.int,AV.bool,AV.str,results39,List.map_nil,d,sumL,PT.op,PT.name,PT.n,PT.kids,Bq,bE]
 | cons x r =>
  have hlr:r.length<=1000:=by simp at hl; omega
  generalize hT:sumL (x :: r)=T
  have j9:sumT x r=T:=hT
  have d:(((r.length+1:Nat):Int) == 0)=false:=beq_eq_false_iff_ne.2 (by omega)
  have gn:nth (predC x :: r.map predC) 0=some (predC x):=rfl
  have pf:(predC x :: r.map predC).drop 1=r.map predC:=rfl
  rw [Ac] at gn
  have hr:B1 4 (predC x :: r.map predC)=true:=Hx (f:=predC) (sz:=4) Kb (x :: r)
  have pg:=sl_tl (P:=prog) (t:=43) (c:=.unk) (by simp only [tys,Option.bind_some]) hr (by simp)
  rw [pf,Ac] at pg
  simp (maxSteps:=10^6)+contextual(disch:=try exact dqd)only[ev1,simprocAttr,AV.int,AV.bool,AV.str,results39,List.map_cons,Ac x,d,gn,pg]
  refine loop1 (P:=prog) (fun x st=>st.T.length=26/\(x.1<=r.length)/\(sumT x.2.1 (r.drop x.1)=T)/\getT st.T 2=.ref 0 0 0/\getT st.T 3=.ref 1 1 0/\getT st.T 14=.frz (r.map predC) .unk/\getT st.T 15=.int (r.length:Nat)/\getT st.T 16=.int (x.1:Nat)/\st.S=[⟨0,[.int 0,.str bE,.int 0,.frz [] .nilc]⟩,⟨1,[.prim (.int .i64 x.2.1.op),.prim (.string x.2.1.name),.prim (.int .i64 x.2.1.n),.frz (Bq x.2.1.kids) x.2.2]⟩]) (fun x=>r.length - x.1) (fun x=>.agg [.prim (.int .i64 T.op),.prim (.string T.name),.prim (.int .i64 T.n),.frz (Bq T.kids) .unk]) (0,x,.unk) ?_ ?_
  case refine_2=>exact ⟨rfl,Nat.zero_le _,j9,rfl,rfl,rfl,rfl,rfl,rfl⟩
  rintro ⟨j,x,c2⟩ ⟨T,S',tk',n'⟩ ⟨hl,hj,hs,e2,e3,e14,e15,e16,eS⟩ IH
  simp only at hj hs e2 e3 e14 e15 e16 eS
  subst eS
  obtain ⟨g,hg,hT⟩:=Ep hl
  rw [hg] at e2 e3 e14 e15 e16
  subst hT
  clear hg hl
  by_cases lj:j<r.length
  ·have d1:decide ((j:Int)<(r.length:Int))=true:=by simpa using lj
   obtain ⟨y,hy⟩:=Aj lj
   have fi:nth (r.map predC) j=some (predC y):=by rw [Db,hy]; rfl
   have hw:=D0 (i:=j) (by omega)
   rw [Ac] at fi
   rw [Bl hy] at hs
   simp only [sumT] at hs
   simp (maxSteps:=10^6)+contextual(disch:=try exact dqd)only[ev1,simprocAttr,AV.int,AV.bool,AV.str,results39,e2,e3,e14,e15,e16,d1,fi,hw]
   refine IH (j+1,.node 6 bE 0 [x,y],.tight) _ (by simp only; omega) ⟨rfl,by simp only; omega,hs,rfl,rfl,rfl,rfl,rfl,?_⟩
   simp [PT.op,PT.name,PT.n,PT.kids,Bq,Ac,bE]
  ·have d1:decide ((j:Int)<(r.length:Int))=false:=by simpa using lj
   have he:j=r.length:=by omega
   rw [he,List.drop_length] at hs
   simp only [sumT] at hs
   subst hs
   simp (maxSteps:=10^6)+contextual(disch:=try exact dqd)only[ev1,simprocAttr,AV.int,AV.bool,AV.str,results39,e2,e3,e14,e15,e16,d1]
end
def Tq:Cap->Option Nat
 | .tok id _ _=>some id
 | _=>none
def H0 (c d:Cap):Prop:=∀ i,Tq c=some i->Tq d=some i->False
theorem H0.symm {c d:Cap} (h:H0 c d):H0 d c:=fun i h1 h2=>h i h2 h1
theorem Tm {c:Cap} : H0 .nilc c:=fun _ h _=>by cases h
theorem Qg {tk:List Nat} {d:Cap} {sz:Nat} (h:Am tk d sz=true) {i:Nat} (hi:Tq d=some i):i<tk.length:=by
 cases d <;> simp only [Tq,Option.some.injEq,reduceCtorEq] at hi
 subst hi
 simp only [Am,Bool.and_eq_true,beq_iff_eq] at h
 exact A2 h.2
theorem Hv {tk:List Nat} {c d:Cap} {sz:Nat} (hd:Am tk d sz=true) (h:H0 c d):Am (Gm tk c) d sz=true:=by
 cases d with
 | unk=>simp [Am] at hd
 | nl=>simp [Am] at hd
 | nn=>simp [Am] at hd
 | tight=>rfl
 | nilc=>rfl
 | tok id ep s =>
  have hlt:=Qg hd (i:=id) rfl
  simp only [Am,Bool.and_eq_true,beq_iff_eq] at hd ⊢
  refine ⟨hd.1,?_⟩
  have cj:nth (tk++[0]) id=nth tk id:=by rw [Aa,Aa,List.getElem?_append_left hlt]
  cases c with
  | tok id' ep' s' =>
   have hne:id'≠id:=fun e=>h id (by rw [e]; rfl) rfl
   have key:∀ (l:List Nat) (i j v:Nat),i≠j->nth (put l i v) j=nth l j:=by
    intro l
    induction l with
    | nil=>intro i j v _; cases i <;> rfl
    | cons a l ih =>
     intro i j v hij
     cases i with
     | zero=>cases j with
      | zero=>exact absurd rfl hij
      | succ j=>rfl
     | succ i=>cases j with
      | zero=>rfl
      | succ j=>exact ih i j v (by omega)
   show nth (put tk id' (ep'+1)) id=some ep
   rw [key _ _ _ _ hne]; exact hd.2
  | _ =>
   show nth (tk++[0]) id=some ep
   rw [cj]; exact hd.2
theorem H2 {tk:List Nat} {c d:Cap} {sz sz':Nat} (hd:Am tk d sz'=true) (h:H0 c d):H0 (D4 tk c sz) d:=fun i h1 h2=>by
 cases c with
 | tok id ep s=>exact h i h1 h2
 | _ =>
  have hlt:=Qg hd h2
  simp only [D4,Tq,Option.some.injEq] at h1
  omega
section
variable (S:List Ent) (tk:List Nat) (k:Nat)
theorem U6 {A:List (List AV)} {c:Cap} : cL prog 39 [.frz A c] S tk k=cL prog 39 [.frz A .unk] S tk k:=Ze rfl rfl rfl
set_option maxHeartbeats 4000000 in
set_option maxRecDepth 100000 in
theorem N5 (r:RowT) (hr:r.1.length<=1048576):cL prog 16 [.agg (rowC r)] S tk k=some (.agg (predC (Hb r)),S,tk,k):=by
 have hC S tk k:=Na S tk k r.1 r.2.1 hr
 simp only [linA,Ar] at hC
 rw [Ac]
 refine opP func16 ntmps16 (hp3:=rfl) ?_
 have hT:Hb r=Hb r:=rfl
 conv at hT=>lhs; unfold Hb
 generalize Hb r=T at *
 by_cases h0:B8 r.1 r.2.1=0
 ·obtain ⟨hb,hn,oa⟩:=P0 h0
  have c1:(B8 r.1 r.2.1 != 0)=false:=by simp [h0]
  rw [if_pos h0] at hT
  simp (maxSteps:=10^6)+contextual(disch:=try exact dqd)only[ev1,simprocAttr,AV.int,AV.bool,AV.str,results16,rowC,Ar,hC,c1]
  clear hC c1 h0
  refine loop1 (P:=prog) (fun x st=>st.T.length=74/\(x.1<=r.1.length)/\(Am st.tk x.2.1 4=true)/\(Am st.tk x.2.2 4=true)/\(H0 x.2.1 x.2.2)/\getT st.T 1=.ref 0 0 0/\getT st.T 2=.ref 1 1 0/\getT st.T 3=.frz ((sideF 1 (r.1.take x.1)).map predC) x.2.1/\getT st.T 4=.frz ((sideF (-1) (r.1.take x.1)).map predC) x.2.2/\getT st.T 15=Ar r.1/\getT st.T 16=.int (r.1.length:Nat)/\getT st.T 17=.int (x.1:Nat)/\st.S=[⟨0,[.frz (r.1.map Dm) .unk,.prim (.int .i64 r.2.1),.prim (.bool r.2.2)]⟩,⟨1,[.int 0,.str bE,.int 0,.frz [] .nilc]⟩]) (fun x=>r.1.length - x.1) (fun x=>.agg [.prim (.int .i64 T.op),.prim (.string T.name),.prim (.int .i64 T.n),.frz (Bq T.kids) .unk]) (0,.nilc,.nilc) ?_ ?_
  case refine_2=>exact ⟨rfl,Nat.zero_le _,rfl,rfl,Tm,rfl,rfl,rfl,rfl,rfl,rfl,rfl,rfl⟩
  rintro ⟨i,cl,cr⟩ ⟨T,S',tk',n'⟩ ⟨hl,hi,ii,gj,cj,e1,e2,e3,e4,e15,e16,e17,eS⟩ IH
  simp only at hi ii gj cj e1 e2 e3 e4 e15 e16 e17 eS
  subst eS
  obtain ⟨g,hg,hT⟩:=Ep hl
  rw [hg] at e1 e2 e3 e4 e15 e16 e17
  subst hT
  clear hg hl
  have ek:=D0 (i:=i) (by omega)
  have hl1:=Hg (g:=1) (cs:=r.1.take i)
  have hl2:=Hg (g:=-1) (cs:=r.1.take i)
  rw [List.length_take] at hl1 hl2
  have ao:=Hx (f:=predC) (sz:=4) Kb (sideF 1 (r.1.take i))
  have cw:=Hx (f:=predC) (sz:=4) Kb (sideF (-1) (r.1.take i))
  have bu:((sideF 1 (r.1.take i)).map predC).length+1<=1048576:=by rw [List.length_map]; omega
  have ca:((sideF (-1) (r.1.take i)).map predC).length+1<=1048576:=by rw [List.length_map]; omega
  by_cases la:i<r.1.length
  ·have d1:decide ((i:Int)<(r.1.length:Int))=true:=by simpa using la
   obtain ⟨c,hx⟩:=Aj la
   have hx':nth (r.1.map Dm) i=some (Dm c):=by rw [Db,hx]; rfl
   have hcm:c ∈ r.1:=by rw [Aa] at hx; exact List.mem_of_getElem? hx
   obtain ⟨aw,hc2⟩:=hb c hcm
   rw [Lx] at aw
   have l6:=Hz hx
   simp only [Dm] at hx'
   by_cases hp:0<c.2
   ·have d2:decide (c.2 > 0)=true:=by simpa using hp
    have k8 S tk k:=J4 S tk k c.2 c.1
    have q1:sideF 1 (r.1.take (i+1))=sideF 1 (r.1.take i)++[Er c.2 c.1]:=by rw [l6,Dj,if_pos (by omega),Int.mul_one]
    have q2:sideF (-1) (r.1.take (i+1))=sideF (-1) (r.1.take i):=by rw [l6,Dj,if_neg (by omega),List.append_nil]
    have k1:=Ng ii
    have k2:=Hv gj cj
    have k3:=H2 (sz:=4) gj cj
    rw [Ac] at k8
    simp (maxSteps:=10^6)+contextual(disch:=try exact dqd)only[ev1,simprocAttr,AV.int,AV.bool,AV.str,results16,e1,e2,e3,e4,e15,e16,e17,d1,d2,Ar,hx',k8,ek,ao]
    refine IH (i+1,D4 tk' cl 4,cr) _ (by simp only; omega) ⟨rfl,by simp only; omega,k1,k2,k3,rfl,rfl,?_,?_,rfl,rfl,rfl,rfl⟩
    ·simp only [getT,q1,List.map_append,List.map_cons,List.map_nil,Ac]
    ·simp only [getT,q2]
   ·have d2:decide (c.2 > 0)=false:=by simpa using hp
    have hw:IntKind.i64.wrap (0 - c.2)=-c.2:=by rw [Ax (by unfold i64; omega)]; omega
    have k8 S tk k:=J4 S tk k (-c.2) c.1
    have q1:sideF 1 (r.1.take (i+1))=sideF 1 (r.1.take i):=by rw [l6,Dj,if_neg (by omega),List.append_nil]
    have q2:sideF (-1) (r.1.take (i+1))=sideF (-1) (r.1.take i)++[Er (-c.2) c.1]:=by rw [l6,Dj,if_pos (by omega),show c.2*-1=-c.2 by omega]
    have k1:=Ng gj
    have k2:=Hv ii cj.symm
    have k3:=(H2 (sz:=4) ii cj.symm).symm
    rw [Ac] at k8
    simp (maxSteps:=10^6)+contextual(disch:=try exact dqd)only[ev1,simprocAttr,AV.int,AV.bool,AV.str,results16,e1,e2,e3,e4,e15,e16,e17,d1,d2,Ar,hx',hw,k8,ek,cw]
    refine IH (i+1,cl,D4 tk' cr 4) _ (by simp only; omega) ⟨rfl,by simp only; omega,k2,k1,k3,rfl,rfl,?_,?_,rfl,rfl,rfl,rfl⟩
    ·simp only [getT,q1]
    ·simp only [getT,q2,List.map_append,List.map_cons,List.map_nil,Ac]
  ·have d1:decide ((i:Int)<(r.1.length:Int))=false:=by simpa using la
   have gk:i=r.1.length:=by omega
   subst gk
   rw [List.take_length] at e3 e4 ao cw bu ca hl1 hl2
   clear IH
   rw [Lx] at hn
   have hw:IntKind.i64.wrap (0 - r.2.1)=-r.2.1:=by rw [Ax (by unfold i64; omega)]; omega
   have ij c S tk k:=(U6 S tk k (c:=c)).trans (Gv S tk k (sidesF 1 r.1 r.2.1) (by have:=Ld (g:=1) (n:=r.2.1) (cs:=r.1); omega))
   have ik c S tk k:=(U6 S tk k (c:=c)).trans (Gv S tk k (sidesF (-1) r.1 r.2.1) (by have:=Ld (g:=-1) (n:=r.2.1) (cs:=r.1); omega))
   have k2:=Hv gj cj
   subst hT
   simp only [PT.op,PT.name,PT.n,PT.kids,Bq]
   generalize hA:sumL (sidesF 1 r.1 r.2.1)=A at *
   generalize hB:sumL (sidesF (-1) r.1 r.2.1)=B at *
   unfold sidesF at ij ik
   rw [Ac A,Ac B]
   simp only [Ac A,Ac B] at ij ik
   rcases Int.lt_trichotomy r.2.1 0 with hz|hz|hz
   ·have d2:decide (r.2.1 > 0)=false:=by simp; omega
    have d3:decide (r.2.1<0)=true:=by simpa using hz
    have f1:conF 1 r.2.1=[]:=by unfold conF; rw [if_neg (by omega)]
    have f2:conF (-1) r.2.1=[.node 1 bE (-r.2.1) []]:=by unfold conF; rw [if_pos (by omega),show r.2.1*-1=-r.2.1 by omega]
    rw [f1,List.append_nil] at ij
    rw [f2,List.map_append] at ik
    simp only [List.map_cons,List.map_nil,predC,Bq,bE] at ik
    cases he:r.2.2 <;>
    simp (maxSteps:=10^6)+contextual(disch:=try exact dqd)only[ev1,simprocAttr,AV.int,AV.bool,AV.str,results16,e1,e2,e3,e4,e15,e16,e17,d1,d2,d3,he,hw,cw,ij,ik,bE,if_true,if_false,Bool.false_eq_true]
   ·have d2:decide (r.2.1 > 0)=false:=by simp; omega
    have d3:decide (r.2.1<0)=false:=by simp; omega
    have f1:conF 1 r.2.1=[]:=by unfold conF; rw [if_neg (by omega)]
    have f2:conF (-1) r.2.1=[]:=by unfold conF; rw [if_neg (by omega)]
    rw [f1,List.append_nil] at ij
    rw [f2,List.append_nil] at ik
    cases he:r.2.2 <;>
    simp (maxSteps:=10^6)+contextual(disch:=try exact dqd)only[ev1,simprocAttr,AV.int,AV.bool,AV.str,results16,e1,e2,e3,e4,e15,e16,e17,d1,d2,d3,he,ij,ik,bE,if_true,if_false,Bool.false_eq_true]
   ·have d2:decide (r.2.1 > 0)=true:=by simpa using hz
    have d3:decide (r.2.1<0)=false:=by simp; omega
    have f1:conF 1 r.2.1=[.node 1 bE r.2.1 []]:=by unfold conF; rw [if_pos (by omega),Int.mul_one]
    have f2:conF (-1) r.2.1=[]:=by unfold conF; rw [if_neg (by omega)]
    rw [f1,List.map_append] at ij
    rw [f2,List.append_nil] at ik
    simp only [List.map_cons,List.map_nil,predC,Bq,bE] at ij
    cases he:r.2.2 <;>
    simp (maxSteps:=10^6)+contextual(disch:=try exact dqd)only[ev1,simprocAttr,AV.int,AV.bool,AV.str,results16,e1,e2,e3,e4,e15,e16,e17,d1,d2,d3,he,ao,ij,ik,bE,if_true,if_false,Bool.false_eq_true]
 ·have c1:(B8 r.1 r.2.1 != 0)=true:=by simpa using h0
  rw [if_neg h0] at hT
  have hL c S tk k:=(U6 S tk k (c:=c)).trans (Gv S tk k [] (by simp))
  simp only [List.map_nil,sumL,predC,Bq,bE] at hL
  subst hT
  simp only [PT.op,PT.name,PT.n,PT.kids,Bq,predC,bE]
  simp (maxSteps:=10^6)+contextual(disch:=try exact dqd)only[ev1,simprocAttr,AV.int,AV.bool,AV.str,results16,rowC,Ar,hC,c1]
  clear hC c1 h0
  refine loop1 (P:=prog) (fun x st=>st.T.length=74/\(x=0)/\getT st.T 1=.ref 0 0 0/\getT st.T 2=.ref 1 1 0/\getT st.T 3=.frz [] .nilc/\getT st.T 4=.frz [] .nilc/\getT st.T 15=.frz [] .nilc/\getT st.T 16=.int (([]:List (List AV)).length:Nat)/\getT st.T 17=.int (x:Nat)/\st.S=[⟨0,[.frz [] .nilc,.int 0,.bool false]⟩,⟨1,[.int 0,.str bE,.int 0,.frz [] .nilc]⟩]) (fun x=>0 - x) (fun x=>.agg [.int 13,.str ⟨#[]⟩,.int 0,.frz [[.prim (.int .i64 1),.prim (.string ⟨#[]⟩),.prim (.int .i64 0),.frz [] .unk],[.prim (.int .i64 1),.prim (.string ⟨#[]⟩),.prim (.int .i64 0),.frz [] .unk]] .unk]) (0) ?_ ?_
  case refine_2=>exact ⟨rfl,rfl,rfl,rfl,rfl,rfl,rfl,rfl,rfl,rfl⟩
  rintro i ⟨T,S',tk',n'⟩ ⟨hl,hi,e1,e2,e3,e4,e15,e16,e17,eS⟩ IH
  subst eS
  obtain ⟨g,hg,hT⟩:=Ep hl
  rw [hg] at e1 e2 e3 e4 e15 e16 e17
  subst hT
  clear hg hl
  subst hi
  have d1:decide (((0:Nat):Int)<((([]:List (List AV)).length:Nat):Int))=false:=rfl
  have d2:decide ((0:Int) > 0)=false:=rfl
  have d3:decide ((0:Int)<0)=false:=rfl
  simp (maxSteps:=10^6)+contextual(disch:=try exact dqd)only[ev1,simprocAttr,AV.int,AV.bool,AV.str,results16,e1,e2,e3,e4,e15,e16,e17,d1,d2,d3,hL,bE]
end
def outC:Option PT->Cap->List AV
 | none,_=>[.prim (.int .i64 0),.prim (.string bE),.prim (.int .i64 0),.frz [] .nilc]
 | some x,c=>[.prim (.int .i64 x.op),.prim (.string x.name),.prim (.int .i64 x.n),.frz (Bq x.kids) c]
def Ja (g:Int) (cs:List (ByteArray × Int)) (n:Int) (i:Nat):List PT:=if i<=cs.length then sideF g (cs.take i) else sidesF g cs n
theorem Ro {g n:Int} {cs:List (ByteArray × Int)} {i:Nat} {c:ByteArray × Int} (h:nth cs i=some c):Ja g cs n (i+1)=Ja g cs n i++(if 0<c.2*g then [Er (c.2*g) c.1] else []):=by
 have:=A2 h
 unfold Ja
 rw [if_pos (by omega),if_pos (by omega),Hz h,Dj]
theorem Rn {g n:Int} {cs:List (ByteArray × Int)} : Ja g cs n (cs.length+1)=Ja g cs n cs.length++conF g n:=by
 unfold Ja
 rw [if_neg (by omega),if_pos (by omega),List.take_length]; rfl
section
variable (S:List Ent) (tk:List Nat) (k:Nat)
set_option maxHeartbeats 4000000 in
set_option maxRecDepth 100000 in
theorem Lk (cs:List (ByteArray × Int)) (n q:Int) (hg:q=1\/q=-1) (hb:∀ c ∈ cs,inB c.2=true) (hn:inB n=true) (hl:cs.length<=1000):cL prog 40 [linA cs n,.int q] S tk k=some (.agg (predC (sumL (sidesF q cs n))),S,tk,k):=by
 have cu:∀ {a:Int},inB a=true->IntKind.i64.wrap (a*q)=a*q:=fun {a} h=>by
  rw [Lx] at h
  rw [Ax (by unfold i64; rcases hg with rfl|rfl <;> omega)]
 have gh:=cu hn
 rw [Ac]
 refine opP func40 ntmps40 (hp3:=rfl) ?_
 generalize hT:sumL (sidesF q cs n)=T
 simp (maxSteps:=10^6)+contextual(disch:=try exact dqd)only[ev1,simprocAttr,AV.int,AV.bool,AV.str,results40,linA,Ar]
 refine loop1 (P:=prog) (fun x st=>st.T.length=64/\(x.1<=cs.length+1)/\(x.2.1=sumO none (Ja q cs n x.1))/\getT st.T 1=.int q/\getT st.T 2=.ref 0 0 0/\getT st.T 4=.ref 1 1 0/\getT st.T 5=.ref 2 2 0/\getT st.T 6=.bool x.2.1.isNone/\getT st.T 7=.int (x.1:Nat)/\st.S=[⟨0,[.frz (cs.map Dm) .unk,.int n]⟩,⟨1,[.int 0,.str bE,.int 0,.frz [] .nilc]⟩,⟨2,outC x.2.1 x.2.2⟩]) (fun x=>cs.length+1 - x.1) (fun x=>.agg [.prim (.int .i64 T.op),.prim (.string T.name),.prim (.int .i64 T.n),.frz (Bq T.kids) .unk]) (0,none,.unk) ?_ ?_
 case refine_2=>exact ⟨rfl,Nat.zero_le _,by unfold Ja; rw [if_pos (Nat.zero_le _)]; rfl,rfl,rfl,rfl,rfl,rfl,rfl,rfl⟩
 rintro ⟨i,o,c2⟩ ⟨T,S',tk',n'⟩ ⟨hl,hi,ho,e1,e2,e4,e5,e6,e7,eS⟩ IH
 simp only at hi ho e1 e2 e4 e5 e6 e7 eS
 subst eS
 obtain ⟨g,hg,hT⟩:=Ep hl
 rw [hg] at e1 e2 e4 e5 e6 e7
 subst hT
 clear hg hl
 have ek:=D0 (i:=i) (by omega)
 by_cases la:i<cs.length
 ·have d0:decide ((i:Int)<=(cs.length:Int))=true:=by simp; omega
  have d1:decide ((i:Int)<(cs.length:Int))=true:=by simpa using la
  obtain ⟨c,hx⟩:=Aj la
  have hx':nth (cs.map Dm) i=some (Dm c):=by rw [Db,hx]; rfl
  have hcm:c ∈ cs:=by rw [Aa] at hx; exact List.mem_of_getElem? hx
  have ai:=Ro (g:=q) (n:=n) hx
  simp only [Dm] at hx'
  obtain ⟨v,hv⟩:∃ v,v=c.2*q:=⟨_,rfl⟩
  have ge:IntKind.i64.wrap (c.2*q)=v:=by rw [hv]; exact cu (hb c hcm)
  rw [<- hv] at ai
  by_cases hp:v<=0
  ·have d2:decide (v<=0)=true:=by simpa using hp
   have d3:(v != 1)=true:=by simp; omega
   rw [if_neg (by omega),List.append_nil] at ai
   simp (maxSteps:=10^6)+contextual(disch:=try exact dqd)only[ev1,simprocAttr,AV.int,AV.bool,AV.str,results40,e1,e2,e4,e5,e6,e7,d0,d1,d2,d3,Ar,hx',gh,ge,ek]
   refine IH (i+1,o,c2) _ (by simp only; omega) ⟨rfl,by simp only; omega,by simp only [ai]; exact ho,rfl,rfl,rfl,rfl,rfl,rfl,rfl⟩
  ·have d2:decide (v<=0)=false:=by simpa using hp
   rw [if_pos (by omega)] at ai
   have ju:sumO none (Ja q cs n (i+1))=some (addO o (Er v c.1)):=by rw [ai,Hi,<- ho]
   by_cases h1:v=1
   ·have d3:(v != 1)=false:=by simpa using h1
    have k9:Er v c.1=.node 3 c.1 0 []:=by unfold Er; rw [if_pos h1]
    cases o with
    | none =>
     simp (maxSteps:=10^6)+contextual(disch:=try exact dqd)only[ev1,simprocAttr,AV.int,AV.bool,AV.str,results40,e1,e2,e4,e5,e6,e7,d0,d1,d2,d3,Ar,hx',gh,ge,ek,outC,Option.isNone_none]
     refine IH (i+1,some (Er v c.1),.nilc) _ (by simp only; omega) ⟨rfl,by simp only; omega,ju.symm,rfl,rfl,rfl,rfl,rfl,rfl,?_⟩
     simp [k9,outC,PT.op,PT.name,PT.n,PT.kids,Bq,bE]
    | some x =>
     simp (maxSteps:=10^6)+contextual(disch:=try exact dqd)only[ev1,simprocAttr,AV.int,AV.bool,AV.str,results40,e1,e2,e4,e5,e6,e7,d0,d1,d2,d3,Ar,hx',gh,ge,ek,outC,Option.isNone_some]
     refine IH (i+1,some (.node 6 bE 0 [x,Er v c.1]),.tight) _ (by simp only; omega) ⟨rfl,by simp only; omega,ju.symm,rfl,rfl,rfl,rfl,rfl,rfl,?_⟩
     simp [k9,outC,PT.op,PT.name,PT.n,PT.kids,Bq,bE,Ac]
   ·have d3:(v != 1)=true:=by simpa using h1
    have k9:Er v c.1=.node 8 bE 0 [.node 1 bE v [],.node 3 c.1 0 []]:=by unfold Er; rw [if_neg h1]
    cases o with
    | none =>
     simp (maxSteps:=10^6)+contextual(disch:=try exact dqd)only[ev1,simprocAttr,AV.int,AV.bool,AV.str,results40,e1,e2,e4,e5,e6,e7,d0,d1,d2,d3,Ar,hx',gh,ge,ek,outC,Option.isNone_none]
     refine IH (i+1,some (Er v c.1),.tight) _ (by simp only; omega) ⟨rfl,by simp only; omega,ju.symm,rfl,rfl,rfl,rfl,rfl,rfl,?_⟩
     simp [k9,outC,PT.op,PT.name,PT.n,PT.kids,Bq,bE,Ac]
    | some x =>
     simp (maxSteps:=10^6)+contextual(disch:=try exact dqd)only[ev1,simprocAttr,AV.int,AV.bool,AV.str,results40,e1,e2,e4,e5,e6,e7,d0,d1,d2,d3,Ar,hx',gh,ge,ek,outC,Option.isNone_some]
     refine IH (i+1,some (.node 6 bE 0 [x,Er v c.1]),.tight) _ (by simp only; omega) ⟨rfl,by simp only; omega,ju.symm,rfl,rfl,rfl,rfl,rfl,rfl,?_⟩
     simp [k9,outC,PT.op,PT.name,PT.n,PT.kids,Bq,bE,Ac]
 by_cases lb:i=cs.length
 ·have d0:decide ((i:Int)<=(cs.length:Int))=true:=by simp; omega
  have d1:decide ((i:Int)<(cs.length:Int))=false:=by simp; omega
  have ai:=Rn (g:=q) (n:=n) (cs:=cs)
  rw [<- lb] at ai
  unfold conF at ai
  obtain ⟨v,hv⟩:∃ v,v=n*q:=⟨_,rfl⟩
  replace gh:IntKind.i64.wrap (n*q)=v:=by rw [hv]; exact cu hn
  rw [<- hv] at ai
  by_cases hp:v<=0
  ·have d2:decide (v<=0)=true:=by simpa using hp
   rw [if_neg (by omega),List.append_nil] at ai
   simp (maxSteps:=10^6)+contextual(disch:=try exact dqd)only[ev1,simprocAttr,AV.int,AV.bool,AV.str,results40,e1,e2,e4,e5,e6,e7,d0,d1,d2,Ar,gh,ek]
   refine IH (i+1,o,c2) _ (by simp only; omega) ⟨rfl,by simp only; omega,by simp only [ai]; exact ho,rfl,rfl,rfl,rfl,rfl,rfl,rfl⟩
  ·have d2:decide (v<=0)=false:=by simpa using hp
   rw [if_pos (by omega)] at ai
   have ju:sumO none (Ja q cs n (i+1))=some (addO o (.node 1 bE v [])):=by rw [ai,Hi,<- ho]
   cases o with
   | none =>
    simp (maxSteps:=10^6)+contextual(disch:=try exact dqd)only[ev1,simprocAttr,AV.int,AV.bool,AV.str,results40,e1,e2,e4,e5,e6,e7,d0,d1,d2,Ar,gh,ek,outC,Option.isNone_none]
    refine IH (i+1,some (.node 1 bE v []),.nilc) _ (by simp only; omega) ⟨rfl,by simp only; omega,ju.symm,rfl,rfl,rfl,rfl,rfl,rfl,?_⟩
    simp [outC,PT.op,PT.name,PT.n,PT.kids,Bq,bE]
   | some x =>
    simp (maxSteps:=10^6)+contextual(disch:=try exact dqd)only[ev1,simprocAttr,AV.int,AV.bool,AV.str,results40,e1,e2,e4,e5,e6,e7,d0,d1,d2,Ar,gh,ek,outC,Option.isNone_some]
    refine IH (i+1,some (.node 6 bE 0 [x,.node 1 bE v []]),.tight) _ (by simp only; omega) ⟨rfl,by simp only; omega,ju.symm,rfl,rfl,rfl,rfl,rfl,rfl,?_⟩
    simp [outC,PT.op,PT.name,PT.n,PT.kids,Bq,bE,Ac]
 ·have d0:decide ((i:Int)<=(cs.length:Int))=false:=by simp; omega
  have gk:Ja q cs n i=sidesF q cs n:=by unfold Ja; rw [if_neg (by omega)]
  have hs:=W2 (sidesF q cs n)
  rw [gk] at ho
  rw [hT,<- ho] at hs
  cases o with
  | none =>
   simp only [Option.getD_none] at hs
   subst hs
   simp (maxSteps:=10^6)+contextual(disch:=try exact dqd)only[ev1,simprocAttr,AV.int,AV.bool,AV.str,results40,e1,e2,e4,e5,e6,e7,d0,Ar,outC,Option.isNone_none,PT.op,PT.name,PT.n,PT.kids,Bq,bE]
  | some x =>
   simp only [Option.getD_some] at hs
   subst hs
   simp (maxSteps:=10^6)+contextual(disch:=try exact dqd)only[ev1,simprocAttr,AV.int,AV.bool,AV.str,results40,e1,e2,e4,e5,e6,e7,d0,Ar,outC,Option.isNone_some]
end
end
section
open Go
end
section
open Go
end
section
open Go
theorem Wz {a b:ByteArray} : sEq a b=true↔a=b:=by
 rw [Qq]
 constructor
 ·intro h; simpa using h
 ·rintro rfl; simp
end
section
open Go Go.Proofs.Tryz
section
variable (S:List Ent) (tk:List Nat) (k:Nat)
set_option maxHeartbeats 4000000 in
set_option maxRecDepth 100000 in
theorem Vq (r:RowT) (hr:r.1.length<=1048576):cL prog 17 [.agg (rowC r)] S tk k=some (.agg (predC (Hb r)),S,tk,k):=by
 have hC S tk k:=R5 S tk k r.1 r.2.1 hr
 simp only [linA,Ar] at hC
 rw [Ac]
 refine opP func17 ntmps17 (hp3:=rfl) ?_
 have hT:Hb r=Hb r:=rfl
 conv at hT=>lhs; unfold Hb
 generalize Hb r=T at *
 by_cases h0:B8 r.1 r.2.1=0
 ·obtain ⟨hb,hn,oa⟩:=P0 h0
  have c1:(B8 r.1 r.2.1 != 0)=false:=by simp [h0]
  rw [if_pos h0] at hT
  have h1 S tk k:=Lk S tk k r.1 r.2.1 1 (.inl rfl) (fun c hc=>(hb c hc).1) hn (by omega)
  have h2 S tk k:=Lk S tk k r.1 r.2.1 (-1) (.inr rfl) (fun c hc=>(hb c hc).1) hn (by omega)
  subst hT
  simp only [PT.op,PT.name,PT.n,PT.kids,Bq]
  generalize sumL (sidesF 1 r.1 r.2.1)=A at *
  generalize sumL (sidesF (-1) r.1 r.2.1)=B at *
  simp only [Ac A,Ac B,linA,Ar] at h1 h2 ⊢
  cases he:r.2.2 <;>
  simp (maxSteps:=10^6)+contextual(disch:=try exact dqd)only[ev1,simprocAttr,AV.int,AV.bool,AV.str,results17,rowC,Ar,he,hC,c1,h1,h2,bE,if_true,if_false,Bool.false_eq_true]
 ·have c1:(B8 r.1 r.2.1 != 0)=true:=by simpa using h0
  rw [if_neg h0] at hT
  have hs:∀ g S tk k,(g=1\/g=-1)->cL prog 40 [.agg [.frz [] .nilc,.int 0],.int g] S tk k=some (.agg (predC (.node 1 bE 0 [])),S,tk,k):=fun g S tk k hg=>by
   refine (Ze (args:=[.agg [.frz [] .nilc,.int 0],.int g]) (args':=[linA [] 0,.int g]) rfl rfl rfl).trans ?_
   have:=Lk S tk k [] 0 g hg (fun c hc=>by cases hc) (by decide) (by simp)
   have e:sidesF g [] 0=[]:=by unfold sidesF conF sideF; rw [if_neg (by omega)]; rfl
   rw [e] at this
   exact this
  have h1 S tk k:=hs 1 S tk k (.inl rfl)
  have h2 S tk k:=hs (-1) S tk k (.inr rfl)
  subst hT
  simp only [PT.op,PT.name,PT.n,PT.kids,Bq,predC,bE] at h1 h2 ⊢
  simp (maxSteps:=10^6)+contextual(disch:=try exact dqd)only[ev1,simprocAttr,AV.int,AV.bool,AV.str,results17,rowC,Ar,hC,c1,h1,h2]
set_option maxRecDepth 100000 in
theorem Tc (o:Int) (s:ByteArray) (n:Int) (ks:List PT) (hlen:ks.length<=1000) (ih:∀ q ∈ ks,∀ S tk k,cL prog 37 [.agg (predC q),.agg (predC q)] S tk k=some (.bool true,S,tk,k)) :
  cL prog 37 [.agg (predC (.node o s n ks)),.agg (predC (.node o s n ks))] S tk k=some (.bool true,S,tk,k):=by
 have z1:(o != o)=false:=by simp
 have z2:sEq s s=true:=Wz.2 rfl
 have z3:(n != n)=false:=by simp
 have z4:(((ks.length:Nat):Int) != ((ks.length:Nat):Int))=false:=by simp
 refine opP func37 ntmps37 (hp3:=rfl) ?_
 simp (maxSteps:=10^6)+contextual(disch:=try exact dqd)only[ev1,simprocAttr,AV.int,AV.bool,AV.str,results37,predC,Ew,z1,z2,z3,z4,Bool.not_true]
 refine loop1 (P:=prog) (fun x st=>st.T.length=53/\(x<=ks.length)/\getT st.T 2=.ref 0 0 0/\getT st.T 3=.ref 1 1 0/\getT st.T 36=.int (ks.length:Nat)/\getT st.T 37=.int (x:Nat)/\st.S=[⟨0,[.prim (.int .i64 o),.prim (.string s),.prim (.int .i64 n),.frz (Bq ks) .unk]⟩,⟨1,[.prim (.int .i64 o),.prim (.string s),.prim (.int .i64 n),.frz (Bq ks) .unk]⟩]) (fun x=>ks.length - x) (fun x=>.bool true) (0) ?_ ?_
 case refine_2=>exact ⟨rfl,Nat.zero_le _,rfl,rfl,rfl,rfl,rfl⟩
 rintro j ⟨T,S',tk',n'⟩ ⟨hl,hj,e2,e3,e36,e37,eS⟩ IH
 subst eS
 obtain ⟨g,hg,hT⟩:=Ep hl
 rw [hg] at e2 e3 e36 e37
 subst hT
 clear hg hl
 by_cases hlt:j<ks.length
 ·have d1:decide ((j:Int)<(ks.length:Int))=true:=by simpa using hlt
  obtain ⟨q,hq⟩:=Aj hlt
  have ey:=Wr hq
  have hw:=D0 (i:=j) (by omega)
  have hN:=ih q (Yn hq)
  rw [Ac] at hN ey
  simp (maxSteps:=10^6)+contextual(disch:=try exact dqd)only[ev1,simprocAttr,AV.int,AV.bool,AV.str,results37,e2,e3,e36,e37,Ew,d1,ey,hw,hN]
  exact IH (j+1) _ (by first|omega|(simp only; omega)) ⟨rfl,hlt,(by first|rfl|simp only [getT,List.map_append,List.map_cons,List.map_nil,and_self]),(by first|rfl|simp only [getT,List.map_append,List.map_cons,List.map_nil,and_self]),(by first|rfl|simp only [getT,List.map_append,List.map_cons,List.map_nil,and_self]),(by first|rfl|simp only [getT,List.map_append,List.map_cons,List.map_nil,and_self]),(by first|rfl|simp only [getT,List.map_append,List.map_cons,List.map_nil,and_self])⟩
 ·have d1:decide ((j:Int)<(ks.length:Int))=false:=by simpa using hlt
  simp (maxSteps:=10^6)+contextual(disch:=try exact dqd)only[ev1,simprocAttr,AV.int,AV.bool,AV.str,results37,e2,e3,e36,e37,Ew,d1]
end
mutual
theorem Ps:∀ (p:PT),D5 p->∀ (S:List Ent) (tk:List Nat) (k:Nat),cL prog 37 [.agg (predC p),.agg (predC p)] S tk k=some (.bool true,S,tk,k)
 | .node o s n ks,hn=>fun S tk k=>Tc S tk k o s n ks (by simp only [D5] at hn; exact hn.1) (Mb ks (by simp only [D5] at hn; exact hn.2))
theorem Mb:∀ (ks:List PT),Gq ks->∀ q ∈ ks,∀ (S:List Ent) (tk:List Nat) (k:Nat),cL prog 37 [.agg (predC q),.agg (predC q)] S tk k=some (.bool true,S,tk,k)
 | [],_=>fun q h=>by simp at h
 | x :: ks,hn=>fun q h=>by
  simp only [Gq] at hn
  rcases List.mem_cons.1 h with e|h
  ·rw [e]; exact Ps x hn.1
  ·exact Mb ks hn.2 q h
end
section
variable (S:List Ent) (tk:List Nat) (k:Nat)
theorem Mc (p:PT) (hp:D5 p):cL prog 15 [.agg (predC p),.agg (predC p)] S tk k=some (.bool true,S,tk,k):=by
 have h S tk k:=Ps p hp S tk k
 rw [Ac] at h ⊢
 refine opP func15 ntmps15 (hp3:=rfl) ?_
 simp (maxSteps:=10^6)+contextual(disch:=try exact dqd)only[ev1,simprocAttr,AV.int,AV.bool,AV.str,results15,h]
end
section
variable (S:List Ent) (tk:List Nat) (k:Nat)
set_option maxRecDepth 100000 in
set_option maxHeartbeats 4000000 in
theorem Es (r:RowT):cL prog 5 [.agg (rowC r)] S tk k=some (.bool true,S,tk,k):=by
 have hA S tk k:=R1 S tk k
 refine opP func5 ntmps5 (hp3:=rfl) ?_
 by_cases h1:r.1.length<=30
 ·have d1:decide (((r.1.length:Nat):Int) > 30)=false:=by simp; omega
  have hP S tk k:=N5 S tk k r (by omega)
  have hQ S tk k:=Vq S tk k r (by omega)
  have hS S tk k:=Mc S tk k (Hb r) (N7 r)
  generalize Hb r=q at *
  rw [Ac] at hP hQ hS
  simp only [rowC,Ar] at hP hQ
  simp (maxSteps:=10^6)+contextual(disch:=try exact dqd)only[ev1,simprocAttr,AV.int,AV.bool,AV.str,results5,rowC,Ar,d1,hP,hQ,hS,hA]
 ·have d1:decide (((r.1.length:Nat):Int) > 30)=true:=by simp; omega
  simp (maxSteps:=10^6)+contextual(disch:=try exact dqd)only[ev1,simprocAttr,AV.int,AV.bool,AV.str,results5,rowC,Ar,d1,hA]
end
end
end Go.Proofs.YthelkgdmgihhiaaGreat
