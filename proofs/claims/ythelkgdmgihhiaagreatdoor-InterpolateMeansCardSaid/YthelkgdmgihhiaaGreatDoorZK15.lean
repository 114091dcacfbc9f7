/- Part 15. -/
import Derived.Test.YthelkgdmgihhiaaGreatDoorZK14
import Derived.Laws.Rows
import Derived.WalkKit
import Derived.WalkSpells
namespace Go.Proofs.YthelkgdmgihhiaaGreatDoor
section
open Go Tryz Go.RowKit
def KTab (w:World):Prop:=∃ t fz,w.heap[0]?=some (.cells (kwL.map Value.string).toArray t fz)
theorem KTab.below {w w':World} (h:KTab w) {n:Nat} (hn:0<n) (hb:Below n w w'):KTab w':=by
 obtain ⟨t,fz,h⟩:=h
 exact ⟨t,fz,by rw [hb.block 0 hn]; exact h⟩
theorem KTab.pos {w:World} (h:KTab w):0<w.heap.size:=by
 obtain ⟨t,fz,h⟩:=h
 exact (Array.getElem?_eq_some_iff.1 h).1
theorem hidX {p:Prop} (h:p):Hid p:=h
theorem ix94 {w:World} {cs:Array Value} {i:Nat} {v:Value} (hi:i<42) (h:cs[i]?=some v) :
  (Instr.index 236 (.agg cs) (.int .i64 (i:Int))).run prog w=.ok v w:=by
 have hu:=underlying236
 have ha:aggT prog 9=some false:=by kernel_rfl
 have hs:(prog.info? 9).map (·.size)=some 1:=by kernel_rfl
 have hsz:∃ ti,prog.info? 9=some ti/\ti.size=1:=by simpa [Option.map_eq_some_iff] using hs
 obtain ⟨ti,h1,h2⟩:=hsz
 have hi2:0<=(i:Int)/\(i:Int)<42:=by omega
 simp [Instr.index,run_underlying hu,asIntOf,hi,go_sem,sizeOf,typeInfo,h1,h2,part,Jm ha,h]
set_option maxRecDepth 100000 in
set_option maxHeartbeats 4000000 in
theorem Tp (w:World) (ht:KTab w) (s:ByteArray) :
  Calls prog 196 #[.string s] w fun e w'=>e=.returned (.bool (kwF s))/\Below w.heap.size w w':=by
 obtain ⟨t,fz,hh⟩:=ht
 go_enter func196,ntmps196
 have hi:(prog.info? 236).map (·.size)=some (kwL.map Value.string).toArray.size:=by kernel_rfl
 go_wp2_with (refine wpList_load_row rfl 236 _ rfl 0 rfl t _ fz _ hh underlying236 rfl hi ?_)
 go_loop [6] (fun p=>∃ j:Nat,p=.int .i64 (j:Int)/\j<=42/\Hid ((kwL.take j).any (fun k=>sEq k s)=false)) (fun p=>42 - (G3 p).toNat)
 case atStart=>exact ⟨0,rfl,Nat.zero_le _,rfl⟩
 case round =>
  obtain ⟨j,rfl,hj,hno⟩:=hrel
  have hlen:kwL.length=42:=rfl
  obtain ⟨KW,hKW⟩:∃ KW,KW=(List.map Value.string kwL).toArray:=⟨_,rfl⟩
  rw [<- hKW]
  have hall:∀ j x,nth kwL j=some x->KW[j]?=some (Value.string x):=fun j x hx=>by
   rw [Ab] at hx
   rw [hKW]; simp [hx]
  clear hh hi hKW
  by_cases hlt:j<42
  ·obtain ⟨x,hx⟩:=Af (show j<kwL.length by omega)
   have hix:=ix94 (w:=w) hlt (hall j x hx)
   have hg:(j:Int)<42:=by omega
   have hw2:IntKind.i64.wrap ((j:Int)+1)=((j+1:Nat):Int):=by rw [Go.IntWalk.i64_in _ (by omega)]; omega
   have hx2:kwL[j]?=some x:=by rw [<- Ab]; exact hx
   have HX:=hidX hx2
   clear hall hx hx2
   by_cases hs:sEq x s=true
   ·have hs2:(x.toList == s.toList)=true:=hs
    have HS:=hidX hs
    clear hs
    go_wp2
    go_ret
    refine ⟨?_,Below.refl _ _⟩
    have:kwF s=true:=List.any_eq_true.2 ⟨x,List.mem_of_getElem? HX.out,HS.out⟩
    rw [this]
    rfl
   ·have hs2:(x.toList == s.toList)=false:=by simpa [sEq] using hs
    have HS:=hidX hs
    clear hs
    go_wp2
    refine ⟨⟨j+1,rfl,hlt,hidX ?_⟩,?_⟩
    ·rw [List.take_add_one,HX.out]
     simp only [List.any_append,hno.out,Option.toList_some,List.any_cons,List.any_nil,Bool.or_false,Bool.false_or]
     simpa using HS.out
    ·simp [G3]; omega
  ·have hg:¬ (j:Int)<42:=by omega
   go_wp2
   go_ret
   have he:j=42:=by omega
   subst he
   refine ⟨?_,Below.refl _ _⟩
   rw [show kwF s=false from hno.out]
   rfl
end
section
open Go Tryz
def Bn (c:ByteArray × Int):List AV:=[.prim (.string c.1),.prim (.int .i64 c.2)]
def Ad (cs:List (ByteArray × Int)):AV:=.frz (cs.map Bn) .unk
def linA (cs:List (ByteArray × Int)) (n:Int):AV:=.agg [Ad cs,.prim (.int .i64 n)]
def Bb (s:ByteArray):Bool:=sEq s ⟨#[]⟩ || decide ((s.size:Int) > 400)
def Gq:Option ByteArray->ByteArray->Bool
 | none,_=>false
 | some p,s=>sLt s p || sEq s p
def Am (n:Int):Option ByteArray->List (ByteArray × Int)->Int
 | _,[]=>if inB n then 0 else 2
 | p,c :: cs=>if Bb c.1 then 3 else if c.2 == 0 || !inB c.2 then 2 else if Gq p c.1 then 9 else Am n (some c.1) cs
def B0 (cs:List (ByteArray × Int)) (n:Int):Int:=if 24<cs.length then 7 else Am n none cs
def De (cs:List (ByteArray × Int)):Nat->Option ByteArray
 | 0=>none
 | j+1=>(nth cs j).map (·.1)
section
variable (S:List Ent) (tk:List Nat) (k:Nat)
theorem Mh (n:Int):cL prog 43 [.int n] S tk k=some (.bool (inB n),S,tk,k):=by
 refine opP func43 ntmps43 ?_
 simp +contextual only [ev0,reduceIte,reduceCtorEq,Nat.reduceAdd,Nat.reduceSub,Nat.reduceBEq,Nat.reduceEqDiff,Nat.reduceMul,Nat.reduceLT,Nat.reduceLeDiff,Int.reduceNeg,AV.int,AV.bool,AV.str,results43]
 unfold inB
 exact ⟨fun h=>by simp at h ⊢; omega,fun h=>by simp at h ⊢; omega⟩
theorem U3 (n:Int):cL prog 12 [.int n] S tk k=some (.bool (inB n),S,tk,k):=by
 refine opP func12 ntmps12 ?_
 simp +contextual only [ev0,reduceIte,reduceCtorEq,Nat.reduceAdd,Nat.reduceSub,Nat.reduceBEq,Nat.reduceEqDiff,Nat.reduceMul,Nat.reduceLT,Nat.reduceLeDiff,Int.reduceNeg,AV.int,AV.bool,AV.str,results12]
 unfold inB
 exact ⟨fun h=>by simp at h ⊢; omega,fun h=>by simp at h ⊢; omega⟩
theorem K2 (cs:List (ByteArray × Int)) (n:Int) (hlen:cs.length<=1048576):cL prog 18 [linA cs n] S tk k=some (.int (B0 cs n),S,tk,k):=by
 refine opP func18 ntmps18 ?_
 simp (maxSteps:=10^6)+contextual(disch:=try exact dqd)only[ev1,reduceIte,reduceCtorEq,Nat.reduceAdd,Nat.reduceSub,Nat.reduceBEq,Nat.reduceEqDiff,Nat.reduceMul,Nat.reduceLT,Nat.reduceLeDiff,Int.reduceNeg,AV.int,AV.bool,AV.str,results18,linA,Ad]
 refine ⟨fun h=>?_,fun h=>?_⟩
 ·unfold B0; rw [if_pos (by simp at h; omega)]
 have hc:B0 cs n=Am n none cs:=by unfold B0; rw [if_neg (by simp at h; omega)]
 rw [hc]
 refine loop1 (fun i st=>st.T.length=57/\i<=cs.length/\getT st.T 1=.ref 0 0 0/\getT st.T 10=Ad cs/\getT st.T 11=.int cs.length/\getT st.T 12=.int (i:Nat)/\st.S=[⟨0,[Ad cs,.int n]⟩]) (fun i=>cs.length - i) (fun i=>.int (Am n (De cs i) (cs.drop i))) 0 ?_ ?_
 case refine_2=>exact ⟨rfl,Nat.zero_le _,rfl,rfl,rfl,rfl,rfl⟩
 rintro i ⟨T,S',tk',n'⟩ ⟨hl,hi,e1,e10,e11,e12,rfl⟩ IH
 obtain ⟨g,hg,hT⟩:=A4 hl
 rw [hg] at e1 e10 e11 e12
 subst hT
 clear hg hl h hc
 by_cases hlt:i<cs.length
 ·have d1:decide ((i:Int)<(cs.length:Int))=true:=by simpa using hlt
  obtain ⟨c,hc⟩:=Af hlt
  have az:nth (cs.map Bn) i=some (Bn c):=by rw [Bl,hc]; rfl
  have hw:=A0 (i:=i) (by omega)
  have hp:De cs (i+1)=some c.1:=by simp [De,hc]
  rw [Al hc]
  rcases i with _|j
  ·have d2:decide (((0:Nat):Int) > 0)=false:=rfl
   simp (maxSteps:=10^6)+contextual(disch:=try exact dqd)only[ev1,reduceIte,reduceCtorEq,Nat.reduceAdd,Nat.reduceSub,Nat.reduceBEq,Nat.reduceEqDiff,Nat.reduceMul,Nat.reduceLT,Nat.reduceLeDiff,Int.reduceNeg,AV.int,AV.bool,AV.str,results18,e1,e10,e11,e12,d1,d2,Ad,az,hw,Bn,Mh]
   refine ⟨fun h1=>?_,fun h1=>⟨fun h2=>?_,fun h2=>⟨fun h3=>?_,fun h3=>⟨fun h4=>?_,fun h4=>?_⟩⟩⟩⟩
   ·simp [Am,Bb,h1]
   ·simp only [Am,Bb,h1,h2]; rfl
   ·simp only [Am,Bb,h1,h2,h3]; rfl
   ·rw [IH 1 _ (by omega) ⟨rfl,by omega,rfl,rfl,rfl,rfl,rfl⟩,hp]
    simp only [Am,Bb,h1,h2,h3,h4,De,Gq]; rfl
   ·simp only [Am,Bb,h1,h2,h3,h4]; rfl
  ·have d2:decide (((j+1:Nat):Int) > 0)=true:=decide_eq_true (by omega)
   obtain ⟨p,i7⟩:=Af (show j<cs.length by omega)
   have cz:nth (cs.map Bn) j=some (Bn p):=by rw [Bl,i7]; rfl
   have oc:=Tn (j:=j) (by omega)
   have jl:De cs (j+1)=some p.1:=by simp [De,i7]
   simp (maxSteps:=10^6)+contextual(disch:=try exact dqd)only[ev1,reduceIte,reduceCtorEq,Nat.reduceAdd,Nat.reduceSub,Nat.reduceBEq,Nat.reduceEqDiff,Nat.reduceMul,Nat.reduceLT,Nat.reduceLeDiff,Int.reduceNeg,AV.int,AV.bool,AV.str,results18,e1,e10,e11,e12,d1,d2,Ad,az,hw,Bn,Mh,cz,oc]
   refine ⟨fun h1=>?_,fun h1=>⟨fun h2=>?_,fun h2=>⟨fun h3=>?_,fun h3=>⟨fun h4=>?_,fun h4=>?_⟩⟩⟩⟩
   ·simp [Am,Bb,h1]
   ·simp only [Am,Bb,h1,h2]; rfl
   ·simp only [Am,Bb,h1,h2,h3]; rfl
   ·refine ⟨fun h5=>?_,fun h5=>?_⟩
    ·simp only [Am,Bb,h1,h2,h3,h4,jl,Gq,h5]; rfl
    ·rw [IH (j+1+1) _ (by omega) ⟨rfl,by omega,rfl,rfl,rfl,rfl,rfl⟩,hp]
     simp only [Am,Bb,h1,h2,h3,h4,jl,Gq,h5]; rfl
   ·simp only [Am,Bb,h1,h2,h3,h4]; rfl
 ·have d1:decide ((i:Int)<(cs.length:Int))=false:=by simpa using hlt
  have he:i=cs.length:=by omega
  simp (maxSteps:=10^6)+contextual(disch:=try exact dqd)only[ev1,reduceIte,reduceCtorEq,Nat.reduceAdd,Nat.reduceSub,Nat.reduceBEq,Nat.reduceEqDiff,Nat.reduceMul,Nat.reduceLT,Nat.reduceLeDiff,Int.reduceNeg,AV.int,AV.bool,AV.str,results18,e1,e10,e11,e12,d1,Ad,Mh]
  rw [he,List.drop_length]
  exact ⟨fun h=>by simp [Am,h],fun h=>by simp [Am,h]⟩
theorem Ya (cs:List (ByteArray × Int)) (n:Int) (hlen:cs.length<=1048576):cL prog 5 [linA cs n] S tk k=some (.int (B0 cs n),S,tk,k):=by
 refine opP func5 ntmps5 ?_
 simp (maxSteps:=10^6)+contextual(disch:=try exact dqd)only[ev1,reduceIte,reduceCtorEq,Nat.reduceAdd,Nat.reduceSub,Nat.reduceBEq,Nat.reduceEqDiff,Nat.reduceMul,Nat.reduceLT,Nat.reduceLeDiff,Int.reduceNeg,AV.int,AV.bool,AV.str,results5,linA,Ad]
 refine ⟨fun h=>?_,fun h=>?_⟩
 ·unfold B0; rw [if_pos (by simp at h; omega)]
 have hc:B0 cs n=Am n none cs:=by unfold B0; rw [if_neg (by simp at h; omega)]
 rw [hc]
 refine loop1 (fun i st=>st.T.length=60/\i<=cs.length/\getT st.T 1=.ref 0 0 0/\getT st.T 3=.int (i:Nat)/\st.S=[⟨0,[Ad cs,.int n]⟩]) (fun i=>cs.length - i) (fun i=>.int (Am n (De cs i) (cs.drop i))) 0 ?_ ?_
 case refine_2=>exact ⟨rfl,Nat.zero_le _,rfl,rfl,rfl⟩
 rintro i ⟨T,S',tk',n'⟩ ⟨hl,hi,e1,e3,rfl⟩ IH
 obtain ⟨g,hg,hT⟩:=A4 hl
 rw [hg] at e1 e3
 subst hT
 clear hg hl h hc
 by_cases hlt:i<cs.length
 ·have d1:decide ((i:Int)<(cs.length:Int))=true:=by simpa using hlt
  obtain ⟨c,hc⟩:=Af hlt
  have az:nth (cs.map Bn) i=some (Bn c):=by rw [Bl,hc]; rfl
  have hw:=A0 (i:=i) (by omega)
  have hp:De cs (i+1)=some c.1:=by simp [De,hc]
  rw [Al hc]
  rcases i with _|j
  ·have d2:decide (((0:Nat):Int) > 0)=false:=rfl
   simp (maxSteps:=10^6)+contextual(disch:=try exact dqd)only[ev1,reduceIte,reduceCtorEq,Nat.reduceAdd,Nat.reduceSub,Nat.reduceBEq,Nat.reduceEqDiff,Nat.reduceMul,Nat.reduceLT,Nat.reduceLeDiff,Int.reduceNeg,AV.int,AV.bool,AV.str,results5,e1,e3,d1,d2,Ad,az,hw,Bn,U3]
   refine ⟨fun h1=>?_,fun h1=>⟨fun h2=>?_,fun h2=>⟨fun h3=>?_,fun h3=>⟨fun h4=>?_,fun h4=>?_⟩⟩⟩⟩
   ·simp [Am,Bb,h1]
   ·simp only [Am,Bb,h1,h2]; rfl
   ·simp only [Am,Bb,h1,h2,h3]; rfl
   ·rw [IH 1 _ (by omega) ⟨rfl,by omega,rfl,rfl,rfl⟩,hp]
    simp only [Am,Bb,h1,h2,h3,h4,De,Gq]; rfl
   ·simp only [Am,Bb,h1,h2,h3,h4]; rfl
  ·have d2:decide (((j+1:Nat):Int) > 0)=true:=decide_eq_true (by omega)
   obtain ⟨p,i7⟩:=Af (show j<cs.length by omega)
   have cz:nth (cs.map Bn) j=some (Bn p):=by rw [Bl,i7]; rfl
   have oc:=Tn (j:=j) (by omega)
   have jl:De cs (j+1)=some p.1:=by simp [De,i7]
   simp (maxSteps:=10^6)+contextual(disch:=try exact dqd)only[ev1,reduceIte,reduceCtorEq,Nat.reduceAdd,Nat.reduceSub,Nat.reduceBEq,Nat.reduceEqDiff,Nat.reduceMul,Nat.reduceLT,Nat.reduceLeDiff,Int.reduceNeg,AV.int,AV.bool,AV.str,results5,e1,e3,d1,d2,Ad,az,hw,Bn,U3,cz,oc]
   refine ⟨fun h1=>?_,fun h1=>⟨fun h2=>?_,fun h2=>⟨fun h3=>?_,fun h3=>⟨fun h4=>?_,fun h4=>?_⟩⟩⟩⟩
   ·simp [Am,Bb,h1]
   ·simp only [Am,Bb,h1,h2]; rfl
   ·simp only [Am,Bb,h1,h2,h3]; rfl
   ·refine ⟨fun h5=>?_,fun h5=>?_⟩
    ·simp only [Am,Bb,h1,h2,h3,h4,jl,Gq,h5]; rfl
    ·rw [IH (j+1+1) _ (by omega) ⟨rfl,by omega,rfl,rfl,rfl⟩,hp]
     simp only [Am,Bb,h1,h2,h3,h4,jl,Gq,h5]; rfl
   ·simp only [Am,Bb,h1,h2,h3,h4]; rfl
 ·have d1:decide ((i:Int)<(cs.length:Int))=false:=by simpa using hlt
  have he:i=cs.length:=by omega
  simp (maxSteps:=10^6)+contextual(disch:=try exact dqd)only[ev1,reduceIte,reduceCtorEq,Nat.reduceAdd,Nat.reduceSub,Nat.reduceBEq,Nat.reduceEqDiff,Nat.reduceMul,Nat.reduceLT,Nat.reduceLeDiff,Int.reduceNeg,AV.int,AV.bool,AV.str,results5,e1,e3,d1,Ad,U3]
  rw [he,List.drop_length]
  exact ⟨fun h=>by simp [Am,h],fun h=>by simp [Am,h]⟩
end
theorem Df (s:ByteArray):(bsL s).length=s.size:=rfl
theorem at_bs {s:ByteArray} {i:Nat} {b:UInt8} (h:nth (bsL s) i=some b):s[i]?=some b:=by
 rw [Ab] at h
 have hl:i<(bsL s).length:=(List.getElem?_eq_some_iff.1 h).1
 have hs:i<s.size:=by rw [<- Df]; exact hl
 rw [getElem?_pos s i hs]
 rw [List.getElem?_eq_getElem hl] at h
 rw [<- h]
 simp [bsL,ByteArray.getElem_eq_getElem_data]
theorem Ki {s:ByteArray} {i:Nat} (h:i<s.size):∃ b,nth (bsL s) i=some b:=Af (by rw [Df]; exact h)
theorem sIx {s:ByteArray} {i:Nat} {b:UInt8} (h:nth (bsL s) i=some b):Tg true (.prim (.string s)) (some i)=some (.prim (.int .u8 b.toNat)):=by
 unfold Tg; simp only [if_true]; rw [at_bs h]; rfl
theorem P3 {s:ByteArray} {b:UInt8} {f:UInt8->Bool} (h:nth (bsL s) 0=some b):Aer f (bsL s)=f b:=by
 cases hl:bsL s with
 | nil=>rw [hl] at h; simp [nth] at h
 | cons x l=>rw [hl] at h; simp only [nth,Option.some.injEq] at h; subst h; rfl
theorem Gk (s:ByteArray) (a b:Nat):s.extract a b=ofL (((bsL s).take b).drop a):=by
 apply ByteArray.ext
 simp only [ofL,bsL,ByteArray.data_extract]
 apply Array.ext'
 simp [List.drop_take]
theorem Tw (l:List UInt8):bsL (ofL l)=l:=by simp [bsL,ofL]
theorem Ae5 (s:ByteArray):ofL (bsL s)=s:=by apply ByteArray.ext; simp [ofL,bsL]
theorem Hv (l:List UInt8):(ofL l).size=l.length:=by rw [<- Df,Tw]
def cutL:List UInt8->List UInt8 × List UInt8 × Bool
 | []=>([],[],false)
 | b :: r=>if b.toNat=46 then ([],r,true) else (b :: (cutL r).1,(cutL r).2.1,(cutL r).2.2)
theorem Gt:∀ l:List UInt8,H0 l=(cutL l).1 :: (if (cutL l).2.2=true then H0 (cutL l).2.1 else [])
 | []=>rfl
 | b :: r=>by
  simp only [H0,cutL]
  by_cases h:b.toNat=46
  ·simp [h]
  ·rw [Gt r]; simp [h]
theorem Pv:∀ l:List UInt8,(cutL l).1.length<=l.length/\((cutL l).2.2=true->(cutL l).2.1.length<l.length)
 | []=>by simp [cutL]
 | b :: r=>by
  have ih:=Pv r
  simp only [cutL]
  by_cases h:b.toNat=46
  ·simp [h]
  ·simp only [if_neg h,List.length_cons]
   exact ⟨by omega,fun h1=>by have:=ih.2 h1; omega⟩
theorem Y0:∀ (l:List UInt8) (i:Nat) (b:UInt8),nth l i=some b->(∀ j c,j<i->nth l j=some c->c.toNat≠46)->b.toNat=46->cutL l=(l.take i,l.drop (i+1),true)
 | x :: l,0,b,h,_,hb=>by simp only [nth,Option.some.injEq] at h; subst h; simp [cutL,hb]
 | x :: l,i+1,b,h,hn,hb=>by
  have h0:=hn 0 x (by omega) rfl
  have:=Y0 l i b h (fun j c hj hc=>hn (j+1) c (by omega) hc) hb
  simp [cutL,h0,this]
 | [],_,_,h,_,_=>by simp [nth] at h
theorem Pw:∀ (l:List UInt8),(∀ j c,nth l j=some c->c.toNat≠46)->cutL l=(l,[],false)
 | [],_=>rfl
 | x :: l,hn=>by
  have h0:=hn 0 x rfl
  have:=Pw l (fun j c hc=>hn (j+1) c hc)
  simp [cutL,h0,this]
theorem isS:Aj prog 9=true:=by kernel_rfl
theorem Ac4 (s:ByteArray) (i:Nat) (h:i<=s.size):Du prog 9 (.prim (.string s)) none (some (.prim (.int .i64 (i:Int)))) none=some (.str (s.extract 0 i)):=by
 simp [Du,isS,bound,intN,h]
theorem Pb (s:ByteArray) (i:Nat) (h:i<=s.size):Du prog 9 (.prim (.string s)) (some (.prim (.int .i64 (i:Int)))) none none=some (.str (s.extract i s.size)):=by
 simp [Du,isS,bound,intN,h]
def M8 (i:Nat):List ByteArray->ByteArray->Int
 | [],_=>-1
 | x :: l,s=>if sEq x s then i else M8 (i+1) l s
theorem Vl:∀ (l:List ByteArray) (i:Nat) (s:ByteArray),decide (M8 i l s >= 0)=l.any fun x=>sEq x s
 | [],_,_=>rfl
 | x :: l,i,s=>by
  rw [List.any_cons]
  by_cases h:sEq x s=true
  ·have e:M8 i (x :: l) s=i:=if_pos h
   rw [e,h]; simp
  ·have e:M8 i (x :: l) s=M8 (i+1) l s:=if_neg h
   have h':sEq x s=false:=by simpa using h
   rw [e,h',Bool.false_or]
   exact Vl l (i+1) s
section
variable (S:List Ent) (tk:List Nat) (k:Nat)
theorem Qp:cL prog 219 [] S tk k=some (.frz (kwL.map strC) .unk,S,tk,k):=by
 refine opP func219 ntmps219 ?_
 simp (maxSteps:=10^6)+contextual(disch:=try exact dqd)only[ev1,simprocAttr,AV.int,AV.bool,AV.str,results219]
 rfl
theorem Abc (l:List ByteArray) (s:ByteArray) (hlen:l.length<=1000000):cL prog 218 [.frz (l.map strC) .unk,.str s] S tk k=some (.int (M8 0 l s),S,tk,k):=by
 refine opP func218 ntmps218 ?_
 simp (maxSteps:=10^6)+contextual(disch:=try exact dqd)only[ev1,simprocAttr,AV.int,AV.bool,AV.str,results218]
 refine loop1 (P:=prog) (fun x st=>st.T.length=19/\(x<=l.length)/\(M8 0 l s=M8 x (l.drop x) s)/\getT st.T 0=.frz (l.map strC) .unk/\getT st.T 1=.str s/\getT st.T 7=.int (l.length:Nat)/\getT st.T 8=.int (x:Nat)/\st.S=[]) (fun x=>l.length - x) (fun x=>.int (M8 0 l s)) (0) ?_ ?_
 case refine_2=>exact ⟨rfl,Nat.zero_le _,rfl,rfl,rfl,rfl,rfl,rfl⟩
 rintro i ⟨T,S',tk',n'⟩ ⟨hl,hi,hA,e0,e1,e7,e8,eS⟩ IH
 subst eS
 obtain ⟨g,hg,hT⟩:=A4 hl
 rw [hg] at e0 e1 e7 e8
 subst hT
 clear hg hl
 by_cases la:i<l.length
 ·have d1:decide ((i:Int)<(l.length:Int))=true:=by simpa using la
  obtain ⟨x,hx⟩:=Af la
  have hx':nth (l.map strC) i=some (strC x):=by rw [Bl,hx]; rfl
  have hw:=A0 (i:=i) (by omega)
  rw [Al hx] at hA
  simp only [M8] at hA
  cases hq:sEq x s <;> rw [hq] at hA
  ·simp (maxSteps:=10^6)+contextual(disch:=try exact dqd)only[ev1,simprocAttr,AV.int,AV.bool,AV.str,results218,e0,e1,e7,e8,d1,hx',hw,strC,hq]
   exact IH (i+1) _ (by omega) ⟨rfl,by omega,by simpa using hA,rfl,rfl,rfl,rfl,rfl⟩
  ·simp (maxSteps:=10^6)+contextual(disch:=try exact dqd)only[ev1,simprocAttr,AV.int,AV.bool,AV.str,results218,e0,e1,e7,e8,d1,hx',hw,strC,hq]
   simpa using hA.symm
 ·have d1:decide ((i:Int)<(l.length:Int))=false:=by simpa using la
  have he:i=l.length:=by omega
  simp (maxSteps:=10^6)+contextual(disch:=try exact dqd)only[ev1,simprocAttr,AV.int,AV.bool,AV.str,results218,e0,e1,e7,e8,d1]
  rw [hA,he,List.drop_length]; rfl
theorem Tq (s:ByteArray):cL prog 200 [.str s] S tk k=some (.bool (kwF s),S,tk,k):=by
 refine opP func200 ntmps200 ?_
 have h1:=Qp
 have h2 S tk k:=Abc S tk k kwL s (by decide)
 simp (maxSteps:=10^6)+contextual(disch:=try exact dqd)only[ev1,simprocAttr,AV.int,AV.bool,AV.str,results200,h1,h2]
 rw [Vl]; rfl
theorem G5 (b:UInt8):cL prog 199 [.prim (.int .u8 b.toNat)] S tk k=some (.bool (Bm b),S,tk,k):=by
 have e1:decide ((b.toNat:Int) >= (97:Int))=decide (97<=b.toNat):=decide_eq_decide.2 (by omega)
 have e2:decide ((b.toNat:Int)<=(122:Int))=decide (b.toNat<=122):=decide_eq_decide.2 (by omega)
 unfold Bm
 generalize decide (97<=b.toNat)=q1 at *
 generalize decide (b.toNat<=122)=q2 at *
 refine opP func199 ntmps199 ?_
 cases q1 <;> cases q2
 all_goals
  simp (maxSteps:=10^6)+contextual(disch:=try exact dqd)only[ev1,simprocAttr,AV.int,AV.bool,AV.str,results199,e1,e2]
  try rfl
theorem Jd (b:UInt8):cL prog 202 [.prim (.int .u8 b.toNat)] S tk k=some (.bool (capB b),S,tk,k):=by
 have e1:decide ((b.toNat:Int) >= (65:Int))=decide (65<=b.toNat):=decide_eq_decide.2 (by omega)
 have e2:decide ((b.toNat:Int)<=(90:Int))=decide (b.toNat<=90):=decide_eq_decide.2 (by omega)
 unfold capB
 generalize decide (65<=b.toNat)=q1 at *
 generalize decide (b.toNat<=90)=q2 at *
 refine opP func202 ntmps202 ?_
 cases q1 <;> cases q2
 all_goals
  simp (maxSteps:=10^6)+contextual(disch:=try exact dqd)only[ev1,simprocAttr,AV.int,AV.bool,AV.str,results202,e1,e2]
  try rfl
theorem Ll (b:UInt8):cL prog 201 [.prim (.int .u8 b.toNat)] S tk k=some (.bool (digB b),S,tk,k):=by
 have e1:decide ((b.toNat:Int) >= (48:Int))=decide (48<=b.toNat):=decide_eq_decide.2 (by omega)
 have e2:decide ((b.toNat:Int)<=(57:Int))=decide (b.toNat<=57):=decide_eq_decide.2 (by omega)
 unfold digB
 generalize decide (48<=b.toNat)=q1 at *
 generalize decide (b.toNat<=57)=q2 at *
 refine opP func201 ntmps201 ?_
 cases q1 <;> cases q2
 all_goals
  simp (maxSteps:=10^6)+contextual(disch:=try exact dqd)only[ev1,simprocAttr,AV.int,AV.bool,AV.str,results201,e1,e2]
  try rfl
set_option maxHeartbeats 2000000 in
theorem X6 (s:ByteArray):cL prog 170 [.str s] S tk k=some (.int (if Ei s=true then 0 else 3),S,tk,k):=by
 refine opP func170 ntmps170 ?_
 have c2 S tk k:=Tq S tk k s
 by_cases h1:s.size<1
 ·have d1:decide ((s.size:Int)<1)=true:=by simp; omega
  simp (maxSteps:=10^6)+contextual(disch:=try exact dqd)only[ev1,simprocAttr,AV.int,AV.bool,AV.str,results170,d1]
  have:Ei s=false:=by unfold Ei B2; rw [show decide (1<=s.size)=false from decide_eq_false (by omega)]; rfl
  rw [this]; rfl
 by_cases h2:24<s.size
 ·have d1:decide ((s.size:Int)<1)=false:=by simp; omega
  have d2:decide ((s.size:Int) > 24)=true:=by simp; omega
  simp (maxSteps:=10^6)+contextual(disch:=try exact dqd)only[ev1,simprocAttr,AV.int,AV.bool,AV.str,results170,d1,d2]
  have:Ei s=false:=by unfold Ei B2; rw [show decide (s.size<=24)=false from decide_eq_false (by omega),Bool.and_false]; rfl
  rw [this]; rfl
 have d1:decide ((s.size:Int)<1)=false:=by simp; omega
 have d2:decide ((s.size:Int) > 24)=false:=by simp; omega
 have hz:B2 s=true:=by unfold B2; simp; omega
 obtain ⟨b,hb⟩:=Ki (show 0<s.size by omega)
 have aw:=sIx hb
 have c3 S tk k:=G5 S tk k b
 have hN:Ei s=(Bm b && !kwF s && (bsL s).all lowB):=by simp [Ei,hz,P3 hb]
 generalize da:Ei s=R at *
 cases hq:Bm b with
 | false =>
  rw [hq] at c3 hN
  simp (maxSteps:=10^6)+contextual(disch:=try exact dqd)only[ev1,simprocAttr,AV.int,AV.bool,AV.str,results170,d1,d2,c2,c3,aw]
  rw [hN]; rfl
 | true =>
  rw [hq] at c3 hN
  cases hk:kwF s with
  | true =>
   rw [hk] at c2 hN
   simp (maxSteps:=10^6)+contextual(disch:=try exact dqd)only[ev1,simprocAttr,AV.int,AV.bool,AV.str,results170,d1,d2,c2,c3,aw]
   rw [hN]; rfl
  | false =>
   rw [hk] at c2 hN
   simp (maxSteps:=10^6)+contextual(disch:=try exact dqd)only[ev1,simprocAttr,AV.int,AV.bool,AV.str,results170,d1,d2,c2,c3,aw]
   have lg:R=((bsL s).drop 0).all lowB:=by rw [hN]; rfl
   clear aw c2 c3 hN hb da
   refine loop1 (P:=prog) (fun x st=>st.T.length=46/\(x<=s.size)/\(R=((bsL s).drop x).all lowB)/\getT st.T 0=.str s/\getT st.T 23=.int (s.size:Nat)/\getT st.T 24=.int (x:Nat)/\st.S=[]) (fun x=>s.size - x) (fun x=>.int (if R=true then 0 else 3)) (0) ?_ ?_
   case refine_2=>exact ⟨rfl,Nat.zero_le _,lg,rfl,rfl,rfl,rfl⟩
   rintro i ⟨T,S',tk',n'⟩ ⟨hl,hi,hA,e0,e23,e24,eS⟩ IH
   subst eS
   obtain ⟨g,hg,hT⟩:=A4 hl
   rw [hg] at e0 e23 e24
   subst hT
   clear hg hl
   by_cases la:i<s.size
   ·have d1:decide ((i:Int)<(s.size:Int))=true:=by simpa using la
    obtain ⟨b,hb⟩:=Ki la
    have aw:=sIx hb
    have hw:=A0 (i:=i) (by omega)
    rw [Al hb] at hA
    have n1 S tk k:=G5 S tk k b
    have n3 S tk k:=Ll S tk k b
    have e95:(((b.toNat:Nat):Int) != 95)=!decide (b.toNat=95):=by
     by_cases h:b.toNat=95 <;> simp [h] <;> omega
    simp only [List.all_cons,lowB] at hA
    cases q1:Bm b <;> cases q3:digB b <;> cases q2:decide (b.toNat=95) <;> simp only [q1,q2,q3,Bool.or_true,Bool.true_or,Bool.or_false,Bool.false_and,Bool.true_and,Bool.not_true,Bool.not_false] at n1 n3 e95 hA
    case false.false.false =>
     simp (maxSteps:=10^6)+contextual(disch:=try exact dqd)only[ev1,simprocAttr,AV.int,AV.bool,AV.str,results170,e0,e23,e24,d1,aw,hw,n1,n3,e95]
     rw [hA]; rfl
    all_goals
     simp (maxSteps:=10^6)+contextual(disch:=try exact dqd)only[ev1,simprocAttr,AV.int,AV.bool,AV.str,results170,e0,e23,e24,d1,aw,hw,n1,n3,e95]
     exact IH (i+1) _ (by omega) ⟨rfl,by omega,hA,rfl,rfl,rfl,rfl⟩
   ·have d1:decide ((i:Int)<(s.size:Int))=false:=by simpa using la
    have he:i=s.size:=by omega
    simp (maxSteps:=10^6)+contextual(disch:=try exact dqd)only[ev1,simprocAttr,AV.int,AV.bool,AV.str,results170,e0,e23,e24,d1]
    rw [hA,he,<- Df,List.drop_length]; rfl
set_option maxHeartbeats 2000000 in
theorem X7 (s:ByteArray):cL prog 171 [.str s] S tk k=some (.int (if Dj s=true then 0 else 3),S,tk,k):=by
 refine opP func171 ntmps171 ?_
 by_cases h1:s.size<1
 ·have d1:decide ((s.size:Int)<1)=true:=by simp; omega
  simp (maxSteps:=10^6)+contextual(disch:=try exact dqd)only[ev1,simprocAttr,AV.int,AV.bool,AV.str,results171,d1]
  have:Dj s=false:=by unfold Dj B2; rw [show decide (1<=s.size)=false from decide_eq_false (by omega)]; rfl
  rw [this]; rfl
 by_cases h2:24<s.size
 ·have d1:decide ((s.size:Int)<1)=false:=by simp; omega
  have d2:decide ((s.size:Int) > 24)=true:=by simp; omega
  simp (maxSteps:=10^6)+contextual(disch:=try exact dqd)only[ev1,simprocAttr,AV.int,AV.bool,AV.str,results171,d1,d2]
  have:Dj s=false:=by unfold Dj B2; rw [show decide (s.size<=24)=false from decide_eq_false (by omega),Bool.and_false]; rfl
  rw [this]; rfl
 have d1:decide ((s.size:Int)<1)=false:=by simp; omega
 have d2:decide ((s.size:Int) > 24)=false:=by simp; omega
 have hz:B2 s=true:=by unfold B2; simp; omega
 obtain ⟨b,hb⟩:=Ki (show 0<s.size by omega)
 have aw:=sIx hb
 have c3 S tk k:=Jd S tk k b
 have hN:Dj s=(capB b && (bsL s).all alnB && !(sEq s ⟨#[73,110,116]⟩ || sEq s ⟨#[66,111,111,108]⟩ || sEq s ⟨#[67,101,108,108]⟩ || sEq s ⟨#[70,117,110]⟩)):=by simp [Dj,hz,P3 hb,bInt,Aby,Abz,bFun]
 generalize da:Dj s=R at *
 cases hq:capB b with
 | false =>
  rw [hq] at c3 hN
  simp (maxSteps:=10^6)+contextual(disch:=try exact dqd)only[ev1,simprocAttr,AV.int,AV.bool,AV.str,results171,d1,d2,c3,aw]
  rw [hN]; rfl
 | true =>
  rw [hq] at c3 hN
  cases r1:sEq s ⟨#[73,110,116]⟩ <;> cases r2:sEq s ⟨#[66,111,111,108]⟩ <;> cases r3:sEq s ⟨#[67,101,108,108]⟩ <;> cases r4:sEq s ⟨#[70,117,110]⟩ <;> simp only [r1,r2,r3,r4,Bool.or_true,Bool.true_or,Bool.or_false,Bool.not_true,Bool.not_false,Bool.and_true,Bool.and_false,Bool.true_and] at hN
  case false.false.false.false =>
   simp (maxSteps:=10^6)+contextual(disch:=try exact dqd)only[ev1,simprocAttr,AV.int,AV.bool,AV.str,results171,d1,d2,c3,aw,r1,r2,r3,r4]
   have lg:R=((bsL s).drop 0).all alnB:=by rw [hN]; rfl
   clear aw c3 hN hb da r1 r2 r3 r4
   refine loop1 (P:=prog) (fun x st=>st.T.length=59/\(x<=s.size)/\(R=((bsL s).drop x).all alnB)/\getT st.T 0=.str s/\getT st.T 35=.int (s.size:Nat)/\getT st.T 36=.int (x:Nat)/\st.S=[]) (fun x=>s.size - x) (fun x=>.int (if R=true then 0 else 3)) (0) ?_ ?_
   case refine_2=>exact ⟨rfl,Nat.zero_le _,lg,rfl,rfl,rfl,rfl⟩
   rintro i ⟨T,S',tk',n'⟩ ⟨hl,hi,hA,e0,e35,e36,eS⟩ IH
   subst eS
   obtain ⟨g,hg,hT⟩:=A4 hl
   rw [hg] at e0 e35 e36
   subst hT
   clear hg hl
   by_cases la:i<s.size
   ·have d1:decide ((i:Int)<(s.size:Int))=true:=by simpa using la
    obtain ⟨b,hb⟩:=Ki la
    have aw:=sIx hb
    have hw:=A0 (i:=i) (by omega)
    rw [Al hb] at hA
    have n1 S tk k:=G5 S tk k b
    have n2 S tk k:=Jd S tk k b
    have n3 S tk k:=Ll S tk k b
    simp only [List.all_cons,alnB] at hA
    cases q1:Bm b <;> cases q2:capB b <;> cases q3:digB b <;> simp only [q1,q2,q3,Bool.or_true,Bool.true_or,Bool.or_false,Bool.false_and,Bool.true_and] at n1 n2 n3 hA
    case false.false.false =>
     simp (maxSteps:=10^6)+contextual(disch:=try exact dqd)only[ev1,simprocAttr,AV.int,AV.bool,AV.str,results171,e0,e35,e36,d1,aw,hw,n1,n2,n3]
     rw [hA]; rfl
    all_goals
     simp (maxSteps:=10^6)+contextual(disch:=try exact dqd)only[ev1,simprocAttr,AV.int,AV.bool,AV.str,results171,e0,e35,e36,d1,aw,hw,n1,n2,n3]
     exact IH (i+1) _ (by omega) ⟨rfl,by omega,hA,rfl,rfl,rfl,rfl⟩
   ·have d1:decide ((i:Int)<(s.size:Int))=false:=by simpa using la
    have he:i=s.size:=by omega
    simp (maxSteps:=10^6)+contextual(disch:=try exact dqd)only[ev1,simprocAttr,AV.int,AV.bool,AV.str,results171,e0,e35,e36,d1]
    rw [hA,he,<- Df,List.drop_length]; rfl
  all_goals
   simp (maxSteps:=10^6)+contextual(disch:=try exact dqd)only[ev1,simprocAttr,AV.int,AV.bool,AV.str,results171,d1,d2,c3,aw,r1,r2,r3,r4]
   rw [hN]; rfl
end
theorem Aa8 {l:List UInt8} {b:UInt8} (h:nth l 0=some b):M2 l=(Bm b && l.all lowB):=by
 cases l with
 | nil=>simp [nth] at h
 | cons x l =>
  simp only [nth,Option.some.injEq] at h; subst h
  simp only [M2,List.all_cons,lowB]
  cases Bm x <;> simp
section
variable (S:List Ent) (tk:List Nat) (k:Nat)
set_option maxHeartbeats 2000000 in
theorem Abd (s:ByteArray):cL prog 172 [.str s] S tk k=some (.bool (J0 s),S,tk,k):=by
 refine opP func172 ntmps172 ?_
 by_cases h1:s.size<1
 ·have d1:decide ((s.size:Int)<1)=true:=by simp; omega
  simp (maxSteps:=10^6)+contextual(disch:=try exact dqd)only[ev1,simprocAttr,AV.int,AV.bool,AV.str,results172,d1]
  unfold J0 B2; rw [show decide (1<=s.size)=false from decide_eq_false (by omega)]; rfl
 by_cases h2:24<s.size
 ·have d1:decide ((s.size:Int)<1)=false:=by simp; omega
  have d2:decide ((s.size:Int) > 24)=true:=by simp; omega
  simp (maxSteps:=10^6)+contextual(disch:=try exact dqd)only[ev1,simprocAttr,AV.int,AV.bool,AV.str,results172,d1,d2]
  unfold J0 B2; rw [show decide (s.size<=24)=false from decide_eq_false (by omega),Bool.and_false]; rfl
 have d1:decide ((s.size:Int)<1)=false:=by simp; omega
 have d2:decide ((s.size:Int) > 24)=false:=by simp; omega
 have hz:B2 s=true:=by unfold B2; simp; omega
 obtain ⟨b,hb⟩:=Ki (show 0<s.size by omega)
 have aw:=sIx hb
 have c3 S tk k:=G5 S tk k b
 have hN:J0 s=((true && (bsL s).all alnB) || (Bm b && (bsL s).all lowB)):=by simp [J0,hz,Aa8 hb]
 generalize da:J0 s=R at *
 generalize Bm b=sb at *
 simp (maxSteps:=10^6)+contextual(disch:=try exact dqd)only[ev1,simprocAttr,AV.int,AV.bool,AV.str,results172,d1,d2,c3,aw]
 clear aw c3 hb da
 refine loop1 (P:=prog) (fun x st=>st.T.length=65/\(x.1<=s.size)/\(R=((x.2.1 && ((bsL s).drop x.1).all alnB) || (x.2.2 && ((bsL s).drop x.1).all lowB)))/\getT st.T 0=.str s/\getT st.T 3=.bool x.2.1/\getT st.T 4=.bool x.2.2/\getT st.T 18=.int (s.size:Nat)/\getT st.T 19=.int (x.1:Nat)/\st.S=[]) (fun x=>s.size - x.1) (fun x=>.bool R) (0,true,sb) ?_ ?_
 case refine_2=>exact ⟨rfl,Nat.zero_le _,hN,rfl,rfl,rfl,rfl,rfl,rfl⟩
 rintro ⟨i,p,v⟩ ⟨T,S',tk',n'⟩ ⟨hl,hi,hA,e0,e3,e4,e18,e19,eS⟩ IH
 simp only at hi hA e0 e3 e4 e18 e19 eS
 subst eS
 obtain ⟨g,hg,hT⟩:=A4 hl
 rw [hg] at e0 e3 e4 e18 e19
 subst hT
 clear hg hl
 by_cases la:i<s.size
 ·have d1:decide ((i:Int)<(s.size:Int))=true:=by simpa using la
  obtain ⟨b,hb⟩:=Ki la
  have aw:=sIx hb
  have hw:=A0 (i:=i) (by omega)
  rw [Al hb] at hA
  have n1 S tk k:=G5 S tk k b
  have n2 S tk k:=Jd S tk k b
  have n3 S tk k:=Ll S tk k b
  have e95:(((b.toNat:Nat):Int) == 95)=decide (b.toNat=95):=by
   by_cases h:b.toNat=95 <;> simp [h] <;> omega
  simp only [List.all_cons] at hA
  rw [<- Bool.and_assoc,<- Bool.and_assoc] at hA
  have cz:(p && alnB b)=(if p=true then (if Bm b=true then true else if capB b=true then true else digB b) else false):=by
   unfold alnB; cases p <;> cases Bm b <;> cases capB b <;> cases digB b <;> rfl
  have hv':(v && lowB b)=(if v=true then (if Bm b=true then true else if digB b=true then true else decide (b.toNat=95)) else false):=by
   unfold lowB; cases v <;> cases Bm b <;> cases digB b <;> cases decide (b.toNat=95) <;> rfl
  generalize Bm b=q1 at *
  generalize capB b=q2 at *
  generalize digB b=q3 at *
  generalize decide (b.toNat=95)=q4 at *
  cases p <;> cases v <;> cases q1 <;> cases q2 <;> cases q3 <;> cases q4
  all_goals
   simp (maxSteps:=10^6)+contextual(disch:=try exact dqd)only[ev1,simprocAttr,AV.int,AV.bool,AV.str,results172,e0,e3,e4,e18,e19,d1,aw,hw,n1,n2,n3,e95]
   simp only [cz,hv',if_true,if_false,Bool.false_eq_true] at hA
   exact IH (i+1,_,_) _ (by simp only; omega) ⟨rfl,la,hA,rfl,rfl,rfl,rfl,rfl,rfl⟩
 ·have d1:decide ((i:Int)<(s.size:Int))=false:=by simpa using la
  have he:i=s.size:=by omega
  have l7:R=(p || v):=by rw [hA,he,<- Df,List.drop_length]; simp
  cases p <;> simp (maxSteps:=10^6)+contextual(disch:=try exact dqd)only[ev1,simprocAttr,AV.int,AV.bool,AV.str,results172,e0,e3,e4,e18,e19,d1] <;> rw [l7] <;> simp
end
theorem Ae7 {l:List UInt8} {i:Nat} {b:UInt8} (h:nth l i=some b) (hn:∀ j c,j<i->nth l j=some c->c.toNat≠46) (hb:b.toNat=46):H0 l=l.take i :: H0 (l.drop (i+1)):=by
 rw [Gt,Y0 l i b h hn hb]; rfl
theorem Aal {l:List UInt8} (hn:∀ j c,nth l j=some c->c.toNat≠46):H0 l=[l]:=by
 rw [Gt,Pw l hn]; rfl
theorem Mg {α:Type} (l:List α) (a j:Nat):nth (l.drop a) j=nth l (a+j):=by
 rw [Ab,Ab,List.getElem?_drop]
theorem Aaq (s:ByteArray) (a i:Nat) (h:a<=i) (h2:i<=s.size):Du prog 9 (.prim (.string s)) (some (.prim (.int .i64 (a:Int)))) (some (.prim (.int .i64 (i:Int)))) none=some (.str (ofL (((bsL s).drop a).take (i - a)))):=by
 have:s.extract a i=ofL (((bsL s).drop a).take (i - a)):=by rw [Gk,List.drop_take]
 simp [Du,isS,bound,intN,h,h2,this]
theorem Aap (s:ByteArray) (a:Nat) (h:a<=s.size):Du prog 9 (.prim (.string s)) (some (.prim (.int .i64 (a:Int)))) none none=some (.str (ofL ((bsL s).drop a))):=by
 rw [Pb s a h,Gk,<- Df,List.take_length]
section
variable (S:List Ent) (tk:List Nat) (k:Nat)
theorem X8 (s:ByteArray) (hs:s.size<=1000000):cL prog 169 [.str s] S tk k=some (.frz ((Nd s).map strC) .unk,S,tk,k):=by
 refine opP func169 ntmps169 ?_
 simp (maxSteps:=10^6)+contextual(disch:=try exact dqd)only[ev1,simprocAttr,AV.int,AV.bool,AV.str,results169]
 refine loop1 (P:=prog) (fun x st=>st.T.length=31/\(x.1<=s.size)/\(x.2.1<=x.1)/\(x.2.2.1.length<=x.1)/\(Aq st.tk x.2.2.2 1=true)/\(Nd s=x.2.2.1++(H0 ((bsL s).drop x.2.1)).map ofL)/\(∀ q y,x.2.1<=q->q<x.1->nth (bsL s) q=some y->y.toNat≠46)/\getT st.T 0=.str s/\getT st.T 3=.frz (x.2.2.1.map strC) x.2.2.2/\getT st.T 4=.int (x.2.1:Nat)/\getT st.T 7=.int (s.size:Nat)/\getT st.T 8=.int (x.1:Nat)/\st.S=[]) (fun x=>s.size - x.1) (fun x=>.frz ((Nd s).map strC) .unk) (0,0,[],.nilc) ?_ ?_
 case refine_2=>exact ⟨rfl,Nat.zero_le _,Nat.zero_le _,Nat.le_refl _,rfl,rfl,fun q y h1 h2=>by omega,rfl,rfl,rfl,rfl,rfl,rfl⟩
 rintro ⟨i,a,o,c⟩ ⟨T,S',tk',n'⟩ ⟨hl,hi,ha,ho,ag,hm,hA,e0,e3,e4,e7,e8,eS⟩ IH
 simp only at hi ha ho ag hm hA e0 e3 e4 e7 e8 eS
 subst eS
 obtain ⟨g,hg,hT⟩:=A4 hl
 rw [hg] at e0 e3 e4 e7 e8
 subst hT
 clear hg hl
 have hr:=E9 (f:=strC) (sz:=1) (fun _=>rfl) o
 have hn:(o.map strC).length+1<=1048576:=by simp; omega
 have jv:=Jz ag
 by_cases la:i<s.size
 ·have d1:decide ((i:Int)<(s.size:Int))=true:=by simpa using la
  obtain ⟨b,hb⟩:=Ki la
  have aw:=sIx hb
  have hw:=A0 (i:=i) (by omega)
  by_cases jw:b.toNat=46
  ·have d2:(((b.toNat:Nat):Int) == 46)=true:=by rw [jw]; rfl
   have ij:=Ae7 (l:=(bsL s).drop a) (i:=i - a) (b:=b) (by rw [Mg,show a+(i - a)=i by omega]; exact hb) (fun j c hj hc=>by rw [Mg] at hc; exact hA (a+j) c (by omega) (by omega) hc) jw
   rw [List.drop_drop,show a+(i - a+1)=i+1 by omega] at ij
   have s1:=Aaq s a i ha hi
   rw [ij,List.map_cons] at hm
   generalize ofL (((bsL s).drop a).take (i - a))=y at *
   simp (maxSteps:=10^6)+contextual(disch:=try exact dqd)only[ev1,simprocAttr,AV.int,AV.bool,AV.str,results169,e0,e3,e4,e7,e8,d1,d2,aw,hw,s1,hr,strC]
   exact IH (i+1,i+1,o++[y],Ed tk' c 1) _ (by simp only; omega) ⟨rfl,la,Nat.le_refl _,by simp; omega,jv,by simp only [hm,List.append_assoc,List.cons_append,List.nil_append],fun q y h1 h2=>by simp only at h1 h2; omega,rfl,by simp [getT,strC],rfl,rfl,rfl,rfl⟩
  ·have d2:(((b.toNat:Nat):Int) == 46)=false:=by simp; omega
   simp (maxSteps:=10^6)+contextual(disch:=try exact dqd)only[ev1,simprocAttr,AV.int,AV.bool,AV.str,results169,e0,e3,e4,e7,e8,d1,d2,aw,hw]
   refine IH (i+1,a,o,c) _ (by simp only; omega) ⟨rfl,la,by simp only; omega,by simp only; omega,ag,hm,fun j c' h1 h2 hc=>?_,rfl,rfl,rfl,rfl,rfl,rfl⟩
   by_cases hji:j=i
   ·subst hji; rw [hb] at hc; cases hc; exact jw
   ·exact hA j c' h1 (by simp only at h2; omega) hc
 ·have d1:decide ((i:Int)<(s.size:Int))=false:=by simpa using la
  have he:i=s.size:=by omega
  have ij:=Aal (l:=(bsL s).drop a) (fun j c hc=>by
   rw [Mg] at hc
   have:a+j<s.size:=by
    rw [Ab] at hc
    have:=(List.getElem?_eq_some_iff.1 hc).1
    rwa [Df] at this
   exact hA (a+j) c (by omega) (by omega) hc)
  have s1:=Aap s a (by omega)
  rw [ij,List.map_cons,List.map_nil] at hm
  generalize ofL ((bsL s).drop a)=y at *
  simp (maxSteps:=10^6)+contextual(disch:=try exact dqd)only[ev1,simprocAttr,AV.int,AV.bool,AV.str,results169,e0,e3,e4,e7,e8,d1,s1,hr,strC]
  rw [hm,List.map_append]; rfl
end
theorem Ab6 {s:ByteArray} (h:s.size<=120) {f:ByteArray} {fs:List ByteArray} (hf:Nd s=f :: fs):Ha s=((Ei f || Dj f || (sEq f bV && !fs.isEmpty)) && fs.all J0):=by
 unfold Ha
 rw [hf,show decide (s.size<=120)=true by simpa using h]; rfl
theorem Wa:∀ l:List UInt8,(H0 l).length<=l.length+1
 | []=>by simp [H0]
 | b :: r=>by
  have:=Wa r
  simp only [H0]
  split
  ·simp; omega
  ·split
   ·rename_i h; rw [h] at this; simp at this ⊢; omega
   ·simp
theorem Ac3 {e:List AV} {es:List (List AV)} {c:Cap} (hr:B7 1 (e :: es)=true):Du prog 50 (.frz (e :: es) c) (some (.prim (.int .i64 1))) none none=some (.frz es .unk):=by
 have hz:(Au prog 50).bind (szOf prog)=some 1:=by kernel_rfl
 simp [Du,hz,hr,bound,intN]
section
variable (S:List Ent) (tk:List Nat) (k:Nat)
set_option maxHeartbeats 4000000 in
theorem Abb (s:ByteArray):cL prog 133 [.str s] S tk k=some (.int (if Ha s=true then 0 else 3),S,tk,k):=by
 refine opP func133 ntmps133 ?_
 by_cases gh:s.size<=120
 case neg =>
  have d0:decide ((s.size:Int) > 120)=true:=by simp; omega
  simp (maxSteps:=10^6)+contextual(disch:=try exact dqd)only[ev1,simprocAttr,AV.int,AV.bool,AV.str,results133,d0]
  have:Ha s=false:=by unfold Ha; rw [show decide (s.size<=120)=false by simpa using gh]; rfl
  rw [this]; rfl
 have d0:decide ((s.size:Int) > 120)=false:=by simp; omega
 have c1 S tk k:=X8 S tk k s (by omega)
 obtain ⟨f,fs,hf⟩:∃ f fs,Nd s=f :: fs:=by
  unfold Nd; rw [Gt]; exact ⟨_,_,rfl⟩
 have hlen:fs.length<=121:=by
  have h1:=Wa (bsL s)
  have h2:(Nd s).length=(H0 (bsL s)).length:=by simp [Nd]
  rw [Df] at h1
  rw [hf] at h2; simp at h2; omega
 rw [Ab6 gh hf]
 rw [hf] at c1
 clear hf
 have c2 S tk k:=X6 S tk k f
 have c3 S tk k:=X7 S tk k f
 have kd:=Ac3 (e:=strC f) (es:=fs.map strC) (c:=.unk) (E9 (f:=strC) (sz:=1) (fun _=>rfl) (f :: fs))
 have ey:(((fs.length+1:Nat):Int) == 1)=fs.isEmpty:=by cases fs <;> simp; omega
 generalize da:((Ei f || Dj f || (sEq f bV && !fs.isEmpty)) && fs.all J0)=RR
 unfold bV at da
 simp only [strC] at kd
 have n30:((3:Int) != 0)=true:=rfl
 have n00:((0:Int) != 0)=false:=rfl
 cases q1:Ei f <;> cases q2:Dj f <;> cases q3:sEq f ⟨#[118]⟩ <;> cases q4:fs.isEmpty <;> rw [q1] at c2 <;> rw [q2] at c3 <;> rw [q4] at ey <;> simp only [q1,q2,q3,q4,Bool.or_true,Bool.true_or,Bool.or_false,Bool.false_and,Bool.true_and,Bool.and_true,Bool.and_false,Bool.false_or,Bool.not_true,Bool.not_false] at da <;> simp only [if_true,if_false,Bool.false_eq_true] at c2 c3
 case false.false.false.false=>simp (maxSteps:=10^6)+contextual(disch:=try exact dqd)only[ev1,simprocAttr,AV.int,AV.bool,AV.str,results133,d0,c1,c2,c3,q3,ey,n30,n00,strC]; rw [<- da]; rfl
 case false.false.false.true=>simp (maxSteps:=10^6)+contextual(disch:=try exact dqd)only[ev1,simprocAttr,AV.int,AV.bool,AV.str,results133,d0,c1,c2,c3,q3,ey,n30,n00,strC]; rw [<- da]; rfl
 case false.false.true.true=>simp (maxSteps:=10^6)+contextual(disch:=try exact dqd)only[ev1,simprocAttr,AV.int,AV.bool,AV.str,results133,d0,c1,c2,c3,q3,ey,n30,n00,strC]; rw [<- da]; rfl
 all_goals
  simp (maxSteps:=10^6)+contextual(disch:=try exact dqd)only[ev1,simprocAttr,AV.int,AV.bool,AV.str,results133,d0,c1,c2,c3,q3,ey,n30,n00,kd,strC]
  clear c1 c2 c3 q1 q2 q3 q4 kd ey n30 n00
  refine loop1 (P:=prog) (fun x st=>st.T.length=45/\(x<=fs.length)/\(RR=(fs.drop x).all J0)/\getT st.T 35=.frz (fs.map strC) .unk/\getT st.T 36=.int (fs.length:Nat)/\getT st.T 37=.int (x:Nat)/\st.S=[]) (fun x=>fs.length - x) (fun x=>.int (if RR=true then 0 else 3)) (0) ?_ ?_
  case refine_2=>exact ⟨rfl,Nat.zero_le _,da.symm,rfl,rfl,rfl,rfl⟩
  rintro i ⟨T,S',tk',n'⟩ ⟨hl,hi,hA,e35,e36,e37,eS⟩ IH
  subst eS
  obtain ⟨g,hg,hT⟩:=A4 hl
  rw [hg] at e35 e36 e37
  subst hT
  clear hg hl
  by_cases la:i<fs.length
  ·have d1:decide ((i:Int)<(fs.length:Int))=true:=by simpa using la
   obtain ⟨x,hx⟩:=Af la
   have hx':nth (fs.map strC) i=some (strC x):=by rw [Bl,hx]; rfl
   have hw:=A0 (i:=i) (by omega)
   rw [Al hx,List.all_cons] at hA
   have c S tk k:=Abd S tk k x
   cases hq:J0 x <;> rw [hq] at c hA
   ·simp (maxSteps:=10^6)+contextual(disch:=try exact dqd)only[ev1,simprocAttr,AV.int,AV.bool,AV.str,results133,e35,e36,e37,d1,hx',hw,strC,c]
    rw [hA]; rfl
   ·rw [Bool.true_and] at hA
    simp (maxSteps:=10^6)+contextual(disch:=try exact dqd)only[ev1,simprocAttr,AV.int,AV.bool,AV.str,results133,e35,e36,e37,d1,hx',hw,strC,c]
    exact IH (i+1) _ (by omega) ⟨rfl,la,hA,rfl,rfl,rfl,rfl⟩
  ·have d1:decide ((i:Int)<(fs.length:Int))=false:=by simpa using la
   have he:i=fs.length:=by omega
   simp (maxSteps:=10^6)+contextual(disch:=try exact dqd)only[ev1,simprocAttr,AV.int,AV.bool,AV.str,results133,e35,e36,e37,d1]
   rw [hA,he,List.drop_length]; rfl
end
theorem Acg {n:Int} (h:inB n=true):i64 n:=by rw [Dy] at h; unfold i64; omega
section
variable (S:List Ent) (tk:List Nat) (k:Nat)
theorem Uf (n:Int):cL prog 43 [.int n] S tk k=some (.bool (inB n),S,tk,k):=by
 refine opP func43 ntmps43 ?_
 simp (maxSteps:=10^6)+contextual(disch:=try exact dqd)only[ev1,simprocAttr,AV.int,AV.bool,AV.str,results43]
 unfold inB
 exact ⟨fun h=>by simp at h ⊢; omega,fun h=>by simp at h ⊢; omega⟩
theorem Mi (n:Int) (ok:Bool):cL prog 83 [.int n,.bool ok] S tk k=some (.tup [.int (chk ok n).1,.bool (chk ok n).2],S,tk,k):=by
 refine opP func83 ntmps83 ?_
 simp (maxSteps:=10^6)+contextual(disch:=try exact dqd)only[ev1,simprocAttr,AV.int,AV.bool,AV.str,results83,Uf]
 simp +contextual [chk]
theorem Abw {a b:Int} (ha:inB a=true) (hb:inB b=true):IntKind.i64.wrap (a+b)=a+b:=by
 rw [Dy] at ha hb; exact Ay (by unfold i64; omega)
theorem Ue (a b:Int):cL prog 47 [.int a,.int b] S tk k=some (.tup [.int (addS a b).1,.bool (addS a b).2],S,tk,k):=by
 refine opP func47 ntmps47 ?_
 simp (maxSteps:=10^6)+contextual(disch:=try exact dqd)only[ev1,simprocAttr,AV.int,AV.bool,AV.str,results47,Uf,Mi,Abw]
 simp +contextual [addS,chk]
theorem Ae4 (n:Int) (h:i64 n):cL prog 82 [.int n] S tk k=some (.int (absS n),S,tk,k):=by
 refine opP func82 ntmps82 ?_
 simp (maxSteps:=10^6)+contextual(disch:=try exact dqd)only[ev1,simprocAttr,AV.int,AV.bool,AV.str,results82]
 simp only [IntKind.wrap_i64,absS,AV.prim.injEq,Value.int.injEq,Option.some.injEq,true_and,decide_eq_true_eq,decide_eq_false_iff_not]
 unfold i64 at h
 refine ⟨fun h1=>?_,fun h1=>⟨fun h2=>?_,fun h2=>?_⟩⟩ <;> (split <;> try split) <;> omega
theorem Acv {n:Int} (h:inB n=true):cL prog 82 [.int n] S tk k=some (.int n.natAbs,S,tk,k):=by rw [Ae4 S tk k n (Acg h),Aec h]
theorem Acq {a b:Int} (ha:inB a=true) (hb:inB b=true) (h0:¬ a=0) (v:Int) (hv:v=(a.natAbs:Int)) :
  (decide ((b.natAbs:Int) > IntKind.i64.wrap (Int.tdiv 1000000000000 v))=false->IntKind.i64.wrap (a*b)=a*b/\inB (a*b)=true)/\(decide ((b.natAbs:Int) > IntKind.i64.wrap (Int.tdiv 1000000000000 v))=true->inB (a*b)=false):=by
 subst hv
 have hp:0<(a.natAbs:Int):=by omega
 have e:Int.tdiv 1000000000000 (a.natAbs:Int)=1000000000000 / (a.natAbs:Int):=Int.tdiv_eq_ediv_of_nonneg (by omega)
 have h1:0<=1000000000000 / (a.natAbs:Int):=Int.ediv_nonneg (by omega) (by omega)
 have h2:1000000000000 / (a.natAbs:Int)<=1000000000000:=Int.ediv_le_self _ (by omega)
 rw [e,Ay (by unfold i64; omega)]
 rcases Acr a b h0 with ⟨h3,h4,h5,h6⟩|⟨h3,h4⟩
 ·exact ⟨fun _=>⟨Ay (by unfold i64; omega),h6⟩,fun h=>by simp only [gt_iff_lt] at h; rw [h3] at h; simp at h⟩
 ·exact ⟨fun h=>by simp only [gt_iff_lt] at h; rw [h3] at h; simp at h,fun _=>h4⟩
theorem Ug (a b:Int):cL prog 46 [.int a,.int b] S tk k=some (.tup [.int (mulS a b).1,.bool (mulS a b).2],S,tk,k):=by
 refine opP func46 ntmps46 ?_
 simp (maxSteps:=10^6)+contextual(disch:=try exact dqd)only[ev1,simprocAttr,AV.int,AV.bool,AV.str,results46,Uf,Mi,Acv]
 refine ⟨fun ha=>⟨fun hb=>⟨fun h0=>?_,fun h0=>⟨fun h1=>?_,fun h1=>?_⟩⟩,fun hb=>?_⟩,fun ha=>?_⟩
 ·simp at h0; subst h0; simp [mulS,chk,hb]; decide
 ·simp at h1; subst h1; simp [mulS,chk,ha]; decide
 ·have h0':¬ a=0:=by simpa using h0
  obtain ⟨c1,c2⟩:=Acq ha hb h0' _ rfl
  refine ⟨by omega,fun h=>?_,fun h=>?_⟩
  ·simp [mulS,chk,ha,hb,c2 h]
  ·simp [mulS,chk,ha,hb,(c1 h).1,(c1 h).2]
 ·simp [mulS,chk,hb]
 ·simp [mulS,chk,ha]
end
end
section
open Go
end
section
open Go
end
section
open Go
theorem Nq {n:Int} : ∀ {p:Option ByteArray} {cs:List (ByteArray × Int)},Am n p cs=0->(∀ c ∈ cs,inB c.2=true/\c.2≠0)/\inB n=true
 | p,[],h=>by
  simp only [Am] at h
  refine ⟨by simp,?_⟩
  cases hn:inB n with
  | true=>rfl
  | false=>rw [hn] at h; simp at h
 | p,c :: cs,h=>by
  simp only [Am] at h
  split at h
  ·simp at h
  ·split at h
   ·simp at h
   ·rename_i h1
    split at h
    ·simp at h
    ·obtain ⟨g1,g2⟩:=Nq h
     refine ⟨fun d hd=>?_,g2⟩
     rcases List.mem_cons.1 hd with rfl|hd
     ·simp at h1; exact ⟨h1.2,h1.1⟩
     ·exact g1 d hd
theorem Ve {cs:List (ByteArray × Int)} {n:Int} (h:B0 cs n=0):(∀ c ∈ cs,inB c.2=true/\c.2≠0)/\inB n=true/\cs.length<=24:=by
 unfold B0 at h
 split at h
 ·simp at h
 ·obtain ⟨h1,h2⟩:=Nq h
  exact ⟨h1,h2,by omega⟩
abbrev RowT:=List (ByteArray × Int) × Int × Bool
def rowC (r:RowT):List AV:=[Ad r.1,.prim (.int .i64 r.2.1),.prim (.bool r.2.2)]
def D4 (l:List RowT):AV:=.frz (l.map rowC) .unk
theorem Z4 {l:List RowT} {i:Nat} {r:RowT} (h:nth l i=some r):nth (l.map rowC) i=some (rowC r):=by rw [Bl,h]; rfl
theorem Pd {α:Type} : ∀ {l:List α} {i:Nat} {x:α},nth l i=some x->l.take (i+1)=l.take i++[x]
 | a :: l,0,x,h=>by simp only [nth,Option.some.injEq] at h; subst h; rfl
 | a :: l,i+1,x,h=>by simp only [List.take_succ_cons,List.cons_append,Pd (l:=l) (i:=i) h]
 | [],_,_,h=>by simp [nth] at h
theorem Ag (q:PT):predC q=[.prim (.int .i64 q.op),.prim (.string q.name),.prim (.int .i64 q.n),.frz (Bj q.kids) .unk]:=by cases q; rfl
theorem Es {ks:List PT} {j:Nat} {q:PT} (h:nth ks j=some q):nth (Bj ks) j=some (predC q):=by rw [Hd,Bl,h]; rfl
theorem Ac (ks:List PT):(Bj ks).length=ks.length:=by rw [Hd,List.length_map]
def bE:ByteArray:=⟨#[]⟩
mutual
def G4:PT->Prop
 | .node _ _ _ ks=>ks.length<=1000/\H6 ks
def H6:List PT->Prop
 | []=>True
 | k :: ks=>G4 k/\H6 ks
end
def J1 (n:Int) (s:ByteArray):PT:=if n=1 then .node 3 s 0 [] else .node 8 bE 0 [.node 1 bE n [],.node 3 s 0 []]
def sumT:PT->List PT->PT
 | x,[]=>x
 | x,y :: r=>sumT (.node 6 bE 0 [x,y]) r
def sumL:List PT->PT
 | []=>.node 1 bE 0 []
 | x :: r=>sumT x r
def sideF (g:Int):List (ByteArray × Int)->List PT
 | []=>[]
 | c :: cs=>if 0<c.2*g then J1 (c.2*g) c.1 :: sideF g cs else sideF g cs
def conF (g n:Int):List PT:=if 0<n*g then [.node 1 bE (n*g) []] else []
def sidesF (g:Int) (cs:List (ByteArray × Int)) (n:Int):List PT:=sideF g cs++conF g n
def D6 (r:RowT):PT:=if B0 r.1 r.2.1=0 then .node (if r.2.2=true then 10 else 13) bE 0 [sumL (sidesF 1 r.1 r.2.1),sumL (sidesF (-1) r.1 r.2.1)] else .node 13 bE 0 [.node 1 bE 0 [],.node 1 bE 0 []]
theorem Gb {g:Int} {c:ByteArray × Int} : ∀ {cs:List (ByteArray × Int)},sideF g (cs++[c])=sideF g cs++(if 0<c.2*g then [J1 (c.2*g) c.1] else [])
 | []=>by simp [sideF]
 | d :: cs=>by
  rw [List.cons_append,sideF,sideF,Gb]
  split <;> rfl
theorem Ka {g:Int} : ∀ {cs:List (ByteArray × Int)},(sideF g cs).length<=cs.length
 | []=>Nat.le_refl _
 | c :: cs=>by
  have:=Ka (g:=g) (cs:=cs)
  rw [sideF]
  split <;> simp <;> omega
theorem Hu {g n:Int} {cs:List (ByteArray × Int)} : (sidesF g cs n).length<=cs.length+1:=by
 have:=Ka (g:=g) (cs:=cs)
 unfold sidesF conF
 split <;> simp <;> omega
theorem W3 (n:Int) (s:ByteArray):G4 (J1 n s):=by unfold J1; split <;> simp [G4,H6]
theorem Ru:∀ (r:List PT) (x:PT),G4 x->(∀ y ∈ r,G4 y)->G4 (sumT x r)
 | [],x,h,_=>h
 | y :: r,x,h,hr=>Ru r _ (by simp only [G4,H6]; exact ⟨by simp,h,hr y (List.mem_cons_self ..),trivial⟩) fun z hz=>hr z (List.mem_cons_of_mem _ hz)
theorem Nz {l:List PT} (h:∀ y ∈ l,G4 y):G4 (sumL l):=by
 cases l with
 | nil=>simp [sumL,G4,H6]
 | cons x r=>exact Ru r x (h x (List.mem_cons_self ..)) fun y hy=>h y (List.mem_cons_of_mem _ hy)
theorem Kq {g:Int} : ∀ {cs:List (ByteArray × Int)},∀ y ∈ sideF g cs,G4 y
 | [],y,h=>by cases h
 | c :: cs,y,h=>by
  rw [sideF] at h
  split at h
  ·rcases List.mem_cons.1 h with rfl|h
   ·exact W3 _ _
   ·exact Kq y h
  ·exact Kq y h
theorem L9 {g n:Int} {cs:List (ByteArray × Int)} : ∀ y ∈ sidesF g cs n,G4 y:=fun y h=>by
 unfold sidesF conF at h
 rcases List.mem_append.1 h with h|h
 ·exact Kq y h
 ·split at h
  ·rw [List.mem_singleton.1 h]; simp [G4,H6]
  ·cases h
theorem L8 (r:RowT):G4 (D6 r):=by
 unfold D6
 split
 ·simp only [G4,H6]
  exact ⟨by simp,Nz L9,Nz L9,trivial⟩
 ·simp [G4,H6]
end
section
open Go Tryz
mutual
theorem T0:∀ p:PT,depthP p<=nodesP p
 | .node _ _ _ ks=>by simp only [depthP,nodesP]; have:=Hb ks; omega
theorem Hb:∀ ks:List PT,E2 ks<=nodesL ks
 | []=>Nat.le_refl _
 | k :: ks=>by simp only [E2,nodesL]; have:=T0 k; have:=Hb ks; omega
end
theorem Hj {i:Nat} (h:i<9223372036854775807):IntKind.i64.wrap ((i:Int)+1)=((i+1:Nat):Int):=by rw [Ay (by unfold i64; omega)]; omega
theorem Mc {ks:List PT} {j:Nat} {q:PT} {n:Int} (h:nth ks j=some q):E5 n (ks.drop j)=E5 (IntKind.i64.wrap (n+Bu q)) (ks.drop (j+1)):=by rw [Al h]; rfl
theorem Lu {ks:List PT} {j:Nat} {q:PT} {n:Int} (h:nth ks j=some q):E4 n (ks.drop j)=E4 (if Bg q > n then Bg q else n) (ks.drop (j+1)):=by rw [Al h]; rfl
section
variable (S:List Ent) (tk:List Nat) (k:Nat)
theorem Mo (o:Int) (s:ByteArray) (n:Int) (ks:List PT) (hlen:ks.length<=9223372036854775807) (ih:∀ q ∈ ks,∀ S tk k,cL prog 84 [.agg (predC q)] S tk k=some (.int (Bu q),S,tk,k)) :
  cL prog 84 [.agg (predC (.node o s n ks))] S tk k=some (.int (Bu (.node o s n ks)),S,tk,k):=by
 simp only [Bu]
 refine opP func84 ntmps84 ?_
 simp (maxSteps:=10^6)+contextual(disch:=try exact dqd)only[ev1,simprocAttr,AV.int,AV.bool,AV.str,results84,predC,Ac]
 refine loop1 (P:=prog) (fun x st=>st.T.length=19/\(x.1<=ks.length)/\(E5 1 ks=E5 x.2 (ks.drop x.1))/\getT st.T 1=.ref 0 0 0/\getT st.T 3=.int x.2/\getT st.T 7=.frz (Bj ks) .unk/\getT st.T 8=.int (ks.length:Nat)/\getT st.T 9=.int (x.1:Nat)/\st.S=[⟨0,[.prim (.int .i64 o),.prim (.string s),.prim (.int .i64 n),.frz (Bj ks) .unk]⟩]) (fun x=>ks.length - x.1) (fun x=>.int (E5 1 ks)) (0,1) ?_ ?_
 case refine_2=>exact ⟨rfl,Nat.zero_le _,rfl,rfl,rfl,rfl,rfl,rfl,rfl⟩
 rintro ⟨j,acc⟩ ⟨T,S',tk',n'⟩ ⟨hl,hj,hA,e1,e3,e7,e8,e9,eS⟩ IH
 simp only at hj hA e1 e3 e7 e8 e9 eS
 subst eS
 obtain ⟨g,hg,hT⟩:=A4 hl
 rw [hg] at e1 e3 e7 e8 e9
 subst hT
 clear hg hl
 by_cases hlt:j<ks.length
 ·have d1:decide ((j:Int)<(ks.length:Int))=true:=by simpa using hlt
  obtain ⟨q,hq⟩:=Af hlt
  have bo:=Es hq
  have hw:=Hj (i:=j) (by omega)
  have hN:=ih q (Jk hq)
  rw [Mc hq] at hA
  rw [Ag] at hN bo
  simp (maxSteps:=10^6)+contextual(disch:=try exact dqd)only[ev1,simprocAttr,AV.int,AV.bool,AV.str,results84,e1,e3,e7,e8,e9,d1,bo,hw,hN]
  exact IH (j+1,IntKind.i64.wrap (acc+Bu q)) _ (by simp only; omega) ⟨rfl,hlt,hA,rfl,rfl,rfl,rfl,rfl,rfl⟩
 ·have d1:decide ((j:Int)<(ks.length:Int))=false:=by simpa using hlt
  have he:j=ks.length:=by omega
  simp (maxSteps:=10^6)+contextual(disch:=try exact dqd)only[ev1,simprocAttr,AV.int,AV.bool,AV.str,results84,e1,e3,e7,e8,e9,d1]
  rw [hA,he,List.drop_length]; rfl
theorem Mm (o:Int) (s:ByteArray) (n:Int) (ks:List PT) (hlen:ks.length<=9223372036854775807) (ih:∀ q ∈ ks,∀ S tk k,cL prog 85 [.agg (predC q)] S tk k=some (.int (Bg q),S,tk,k)) :
  cL prog 85 [.agg (predC (.node o s n ks))] S tk k=some (.int (Bg (.node o s n ks)),S,tk,k):=by
 simp only [Bg]
 refine opP func85 ntmps85 ?_
 simp (maxSteps:=10^6)+contextual(disch:=try exact dqd)only[ev1,simprocAttr,AV.int,AV.bool,AV.str,results85,predC,Ac]
 refine loop1 (P:=prog) (fun x st=>st.T.length=20/\(x.1<=ks.length)/\(E4 0 ks=E4 x.2 (ks.drop x.1))/\getT st.T 1=.ref 0 0 0/\getT st.T 3=.int x.2/\getT st.T 7=.frz (Bj ks) .unk/\getT st.T 8=.int (ks.length:Nat)/\getT st.T 9=.int (x.1:Nat)/\st.S=[⟨0,[.prim (.int .i64 o),.prim (.string s),.prim (.int .i64 n),.frz (Bj ks) .unk]⟩]) (fun x=>ks.length - x.1) (fun x=>.int (IntKind.i64.wrap (E4 0 ks+1))) (0,0) ?_ ?_
 case refine_2=>exact ⟨rfl,Nat.zero_le _,rfl,rfl,rfl,rfl,rfl,rfl,rfl⟩
 rintro ⟨j,acc⟩ ⟨T,S',tk',n'⟩ ⟨hl,hj,hA,e1,e3,e7,e8,e9,eS⟩ IH
 simp only at hj hA e1 e3 e7 e8 e9 eS
 subst eS
 obtain ⟨g,hg,hT⟩:=A4 hl
 rw [hg] at e1 e3 e7 e8 e9
 subst hT
 clear hg hl
 by_cases hlt:j<ks.length
 ·have d1:decide ((j:Int)<(ks.length:Int))=true:=by simpa using hlt
  obtain ⟨q,hq⟩:=Af hlt
  have bo:=Es hq
  have hw:=Hj (i:=j) (by omega)
  have hN:=ih q (Jk hq)
  rw [Lu hq] at hA
  rw [Ag] at hN bo
  simp (maxSteps:=10^6)+contextual(disch:=try exact dqd)only[ev1,simprocAttr,AV.int,AV.bool,AV.str,results85,e1,e3,e7,e8,e9,d1,bo,hw,hN]
  exact IH (j+1,if Bg q > acc then Bg q else acc) _ (by simp only; omega) ⟨rfl,hlt,hA,rfl,rfl,rfl,rfl,rfl,rfl⟩
 ·have d1:decide ((j:Int)<(ks.length:Int))=false:=by simpa using hlt
  have he:j=ks.length:=by omega
  simp (maxSteps:=10^6)+contextual(disch:=try exact dqd)only[ev1,simprocAttr,AV.int,AV.bool,AV.str,results85,e1,e3,e7,e8,e9,d1]
  rw [hA,he,List.drop_length]; rfl
theorem M6 (o:Int) (s:ByteArray) (n:Int) (ks:List PT) (hlen:ks.length<=9223372036854775807) (ih:∀ q ∈ ks,∀ S tk k,cL prog 24 [.agg (predC q)] S tk k=some (.int (Bu q),S,tk,k)) :
  cL prog 24 [.agg (predC (.node o s n ks))] S tk k=some (.int (Bu (.node o s n ks)),S,tk,k):=by
 simp only [Bu]
 refine opP func24 ntmps24 ?_
 simp (maxSteps:=10^6)+contextual(disch:=try exact dqd)only[ev1,simprocAttr,AV.int,AV.bool,AV.str,results24,predC,Ac]
 refine loop1 (P:=prog) (fun x st=>st.T.length=19/\(x.1<=ks.length)/\(E5 1 ks=E5 x.2 (ks.drop x.1))/\getT st.T 1=.ref 0 0 0/\getT st.T 3=.int x.2/\getT st.T 7=.frz (Bj ks) .unk/\getT st.T 8=.int (ks.length:Nat)/\getT st.T 9=.int (x.1:Nat)/\st.S=[⟨0,[.prim (.int .i64 o),.prim (.string s),.prim (.int .i64 n),.frz (Bj ks) .unk]⟩]) (fun x=>ks.length - x.1) (fun x=>.int (E5 1 ks)) (0,1) ?_ ?_
 case refine_2=>exact ⟨rfl,Nat.zero_le _,rfl,rfl,rfl,rfl,rfl,rfl,rfl⟩
 rintro ⟨j,acc⟩ ⟨T,S',tk',n'⟩ ⟨hl,hj,hA,e1,e3,e7,e8,e9,eS⟩ IH
 simp only at hj hA e1 e3 e7 e8 e9 eS
 subst eS
 obtain ⟨g,hg,hT⟩:=A4 hl
 rw [hg] at e1 e3 e7 e8 e9
 subst hT
 clear hg hl
 by_cases hlt:j<ks.length
 ·have d1:decide ((j:Int)<(ks.length:Int))=true:=by simpa using hlt
  obtain ⟨q,hq⟩:=Af hlt
  have bo:=Es hq
  have hw:=Hj (i:=j) (by omega)
  have hN:=ih q (Jk hq)
  rw [Mc hq] at hA
  rw [Ag] at hN bo
  simp (maxSteps:=10^6)+contextual(disch:=try exact dqd)only[ev1,simprocAttr,AV.int,AV.bool,AV.str,results24,e1,e3,e7,e8,e9,d1,bo,hw,hN]
  exact IH (j+1,IntKind.i64.wrap (acc+Bu q)) _ (by simp only; omega) ⟨rfl,hlt,hA,rfl,rfl,rfl,rfl,rfl,rfl⟩
 ·have d1:decide ((j:Int)<(ks.length:Int))=false:=by simpa using hlt
  have he:j=ks.length:=by omega
  simp (maxSteps:=10^6)+contextual(disch:=try exact dqd)only[ev1,simprocAttr,AV.int,AV.bool,AV.str,results24,e1,e3,e7,e8,e9,d1]
  rw [hA,he,List.drop_length]; rfl
theorem M5 (o:Int) (s:ByteArray) (n:Int) (ks:List PT) (hlen:ks.length<=9223372036854775807) (ih:∀ q ∈ ks,∀ S tk k,cL prog 25 [.agg (predC q)] S tk k=some (.int (Bg q),S,tk,k)) :
  cL prog 25 [.agg (predC (.node o s n ks))] S tk k=some (.int (Bg (.node o s n ks)),S,tk,k):=by
 simp only [Bg]
 refine opP func25 ntmps25 ?_
 simp (maxSteps:=10^6)+contextual(disch:=try exact dqd)only[ev1,simprocAttr,AV.int,AV.bool,AV.str,results25,predC,Ac]
 refine loop1 (P:=prog) (fun x st=>st.T.length=20/\(x.1<=ks.length)/\(E4 0 ks=E4 x.2 (ks.drop x.1))/\getT st.T 1=.ref 0 0 0/\getT st.T 3=.int x.2/\getT st.T 7=.frz (Bj ks) .unk/\getT st.T 8=.int (ks.length:Nat)/\getT st.T 9=.int (x.1:Nat)/\st.S=[⟨0,[.prim (.int .i64 o),.prim (.string s),.prim (.int .i64 n),.frz (Bj ks) .unk]⟩]) (fun x=>ks.length - x.1) (fun x=>.int (IntKind.i64.wrap (E4 0 ks+1))) (0,0) ?_ ?_
 case refine_2=>exact ⟨rfl,Nat.zero_le _,rfl,rfl,rfl,rfl,rfl,rfl,rfl⟩
 rintro ⟨j,acc⟩ ⟨T,S',tk',n'⟩ ⟨hl,hj,hA,e1,e3,e7,e8,e9,eS⟩ IH
 simp only at hj hA e1 e3 e7 e8 e9 eS
 subst eS
 obtain ⟨g,hg,hT⟩:=A4 hl
 rw [hg] at e1 e3 e7 e8 e9
 subst hT
 clear hg hl
 by_cases hlt:j<ks.length
 ·have d1:decide ((j:Int)<(ks.length:Int))=true:=by simpa using hlt
  obtain ⟨q,hq⟩:=Af hlt
  have bo:=Es hq
  have hw:=Hj (i:=j) (by omega)
  have hN:=ih q (Jk hq)
  rw [Lu hq] at hA
  rw [Ag] at hN bo
  simp (maxSteps:=10^6)+contextual(disch:=try exact dqd)only[ev1,simprocAttr,AV.int,AV.bool,AV.str,results25,e1,e3,e7,e8,e9,d1,bo,hw,hN]
  exact IH (j+1,if Bg q > acc then Bg q else acc) _ (by simp only; omega) ⟨rfl,hlt,hA,rfl,rfl,rfl,rfl,rfl,rfl⟩
 ·have d1:decide ((j:Int)<(ks.length:Int))=false:=by simpa using hlt
  have he:j=ks.length:=by omega
  simp (maxSteps:=10^6)+contextual(disch:=try exact dqd)only[ev1,simprocAttr,AV.int,AV.bool,AV.str,results25,e1,e3,e7,e8,e9,d1]
  rw [hA,he,List.drop_length]; rfl
end
mutual
theorem N7:∀ (p:PT),Ai p->∀ (S:List Ent) (tk:List Nat) (k:Nat),cL prog 84 [.agg (predC p)] S tk k=some (.int (Bu p),S,tk,k)
 | .node o s n ks,hn=>fun S tk k=>Mo S tk k o s n ks (by simp only [Ai] at hn; exact hn.1) (Mn ks (by simp only [Ai] at hn; exact hn.2))
theorem Mn:∀ (ks:List PT),Bd ks->∀ q ∈ ks,∀ (S:List Ent) (tk:List Nat) (k:Nat),cL prog 84 [.agg (predC q)] S tk k=some (.int (Bu q),S,tk,k)
 | [],_=>fun q h=>by simp at h
 | x :: ks,hn=>fun q h=>by
  simp only [Bd] at hn
  rcases List.mem_cons.1 h with e|h
  ·rw [e]; exact N7 x hn.1
  ·exact Mn ks hn.2 q h
end
mutual
theorem N6:∀ (p:PT),Ai p->∀ (S:List Ent) (tk:List Nat) (k:Nat),cL prog 85 [.agg (predC p)] S tk k=some (.int (Bg p),S,tk,k)
 | .node o s n ks,hn=>fun S tk k=>Mm S tk k o s n ks (by simp only [Ai] at hn; exact hn.1) (Ml ks (by simp only [Ai] at hn; exact hn.2))
theorem Ml:∀ (ks:List PT),Bd ks->∀ q ∈ ks,∀ (S:List Ent) (tk:List Nat) (k:Nat),cL prog 85 [.agg (predC q)] S tk k=some (.int (Bg q),S,tk,k)
 | [],_=>fun q h=>by simp at h
 | x :: ks,hn=>fun q h=>by
  simp only [Bd] at hn
  rcases List.mem_cons.1 h with e|h
  ·rw [e]; exact N6 x hn.1
  ·exact Ml ks hn.2 q h
end
mutual
theorem Qs:∀ (p:PT),Ai p->∀ (S:List Ent) (tk:List Nat) (k:Nat),cL prog 24 [.agg (predC p)] S tk k=some (.int (Bu p),S,tk,k)
 | .node o s n ks,hn=>fun S tk k=>M6 S tk k o s n ks (by simp only [Ai] at hn; exact hn.1) (Nk ks (by simp only [Ai] at hn; exact hn.2))
theorem Nk:∀ (ks:List PT),Bd ks->∀ q ∈ ks,∀ (S:List Ent) (tk:List Nat) (k:Nat),cL prog 24 [.agg (predC q)] S tk k=some (.int (Bu q),S,tk,k)
 | [],_=>fun q h=>by simp at h
 | x :: ks,hn=>fun q h=>by
  simp only [Bd] at hn
  rcases List.mem_cons.1 h with e|h
  ·rw [e]; exact Qs x hn.1
  ·exact Nk ks hn.2 q h
end
mutual
theorem Qr:∀ (p:PT),Ai p->∀ (S:List Ent) (tk:List Nat) (k:Nat),cL prog 25 [.agg (predC p)] S tk k=some (.int (Bg p),S,tk,k)
 | .node o s n ks,hn=>fun S tk k=>M5 S tk k o s n ks (by simp only [Ai] at hn; exact hn.1) (Nj ks (by simp only [Ai] at hn; exact hn.2))
theorem Nj:∀ (ks:List PT),Bd ks->∀ q ∈ ks,∀ (S:List Ent) (tk:List Nat) (k:Nat),cL prog 25 [.agg (predC q)] S tk k=some (.int (Bg q),S,tk,k)
 | [],_=>fun q h=>by simp at h
 | x :: ks,hn=>fun q h=>by
  simp only [Bd] at hn
  rcases List.mem_cons.1 h with e|h
  ·rw [e]; exact Qr x hn.1
  ·exact Nj ks hn.2 q h
end
end
section
open Go
theorem Ab0 (s:ByteArray):∀ (n i:Nat) (r:List UInt8),s.size - i=n->ByteArray.toList.loop s i r=r.reverse++s.data.toList.drop i:=by
 intro n
 induction n with
 | zero =>
  intro i r h
  rw [ByteArray.toList.loop,if_neg (by omega),List.drop_eq_nil_of_le (by simp; omega),List.append_nil]
 | succ n ih =>
  intro i r h
  have hi:i<s.data.size:=by simp; omega
  rw [ByteArray.toList.loop,if_pos (by omega),ih (i+1) _ (by omega),List.reverse_cons,List.append_assoc]
  congr 1
  have e:s.data.toList.drop i=s.data[i] :: s.data.toList.drop (i+1):=by
   rw [<- Array.getElem_toList hi,List.getElem_cons_drop]
  rw [e,List.singleton_append]
  congr 1
  show s.data[i]! = _
  rw [getElem!_pos s.data i hi]
theorem Mz (s:ByteArray):s.toList=s.data.toList:=by
 rw [ByteArray.toList,Ab0 s _ 0 [] rfl]; simp
theorem Da (s:ByteArray):sEq s ⟨#[]⟩=decide (s.size=0):=by
 unfold sEq
 rw [Mz,Mz]
 have hl:s.data.toList.length=s.size:=rfl
 cases hx:s.data.toList with
 | nil =>
  rw [hx] at hl
  have:s.size=0:=hl.symm
  simp [this]
 | cons x l =>
  rw [hx] at hl
  have:s.size≠0:=by rw [<- hl]; simp
  simp [this]
end
section
open Go Tryz
section
variable (S:List Ent) (tk:List Nat) (k:Nat)
theorem X9 (o:Int):cL prog 93 [.int o] S tk k=some (.bool (Bz o),S,tk,k):=by
 refine opP func93 ntmps93 ?_
 simp (maxSteps:=10^6)+contextual(disch:=try exact dqd)only[ev1,simprocAttr,AV.int,AV.bool,AV.str,results93]
 unfold Bz
 refine ⟨fun h=>?_,fun h=>⟨fun h1=>?_,fun h1=>?_⟩⟩ <;> simp_all [Bool.beq_eq_decide_eq]
theorem Abe (o:Int) (n:Nat):cL prog 94 [.int o,.int (n:Nat)] S tk k=some (.bool (Dt o n),S,tk,k):=by
 refine opP func94 ntmps94 ?_
 simp (maxSteps:=10^6)+contextual(disch:=try exact dqd)only[ev1,simprocAttr,AV.int,AV.bool,AV.str,results94]
 simp only [beq_iff_eq,beq_eq_false_iff_ne,ne_eq,Dt]
 have e0:(((n:Nat):Int) == 0)=decide (n=0):=by rw [Bool.beq_eq_decide_eq]; exact decide_eq_decide.2 (by omega)
 have e1:(((n:Nat):Int) == 1)=decide (n=1):=by rw [Bool.beq_eq_decide_eq]; exact decide_eq_decide.2 (by omega)
 have e2:(((n:Nat):Int) == 2)=decide (n=2):=by rw [Bool.beq_eq_decide_eq]; exact decide_eq_decide.2 (by omega)
 have e3:decide (((n:Nat):Int) >= 1)=decide (1<=n):=decide_eq_decide.2 (by omega)
 have e4:decide (((n:Nat):Int)<=24)=decide (n<=24):=decide_eq_decide.2 (by omega)
 simp only [e0,e1,e2,e3,e4]
 generalize decide (n=0)=z0
 generalize decide (n=1)=z1
 generalize decide (n=2)=z2
 generalize decide (1<=n)=z3
 generalize decide (n<=24)=z4
 clear e0 e1 e2 e3 e4
 by_cases h1:o=1
 ·subst h1; simp
 by_cases h2:o=2
 ·subst h2; simp
 by_cases h3:o=3
 ·subst h3; simp
 by_cases h4:o=4
 ·subst h4; cases z3 <;> simp
 by_cases h5:o=5
 ·subst h5; cases z3 <;> simp
 by_cases h9:o=9
 ·subst h9; simp
 by_cases lh:o=14
 ·subst lh; simp
 simp [h1,h2,h3,h4,h5,h9,lh]
theorem Wm (o:Int) (s:ByteArray) (n:Int) (ks:List PT):cL prog 95 [.agg (predC (.node o s n ks))] S tk k=some (.bool (B8 o s),S,tk,k):=by
 refine opP func95 ntmps95 ?_
 have c S tk k:=Abb S tk k s
 have n3:((3:Int) == 0)=false:=rfl
 have n0:((0:Int) == 0)=true:=rfl
 cases hc:Ha s <;> rw [hc] at c <;> simp only [if_true,if_false,Bool.false_eq_true] at c
 all_goals
  simp (maxSteps:=10^6)+contextual(disch:=try exact dqd)only[ev1,simprocAttr,AV.int,AV.bool,AV.str,results95,predC,c,n3,n0]
  simp only [beq_iff_eq,beq_eq_false_iff_ne,ne_eq,B8,bV,bTag,bVal]
  grind
set_option maxRecDepth 100000 in
set_option maxHeartbeats 4000000 in
theorem Abf (o:Int) (s:ByteArray) (n:Int) (ks:List PT):cL prog 51 [.agg (predC (.node o s n ks))] S tk k=some (.int (Bk (.node o s n ks)),S,tk,k):=by
 refine opP func51 ntmps51 ?_
 have c1 S tk k:=Abe S tk k o ks.length
 have c2 S tk k:=X9 S tk k o
 have c3 S tk k:=Wm S tk k o s n ks
 have c4 S tk k:=U3 S tk k n
 simp only [predC] at c3
 by_cases hr:o<1\/18<o
 ·by_cases cp:o<1
  ·have d1:decide (o<1)=true:=by simpa using cp
   have g1:(o == 1)=false:=by simp; omega
   have g2:(o == 2)=false:=by simp; omega
   simp (maxSteps:=10^6)+contextual(disch:=try exact dqd)only[ev1,simprocAttr,AV.int,AV.bool,AV.str,results51,predC,Ac,d1,g1,g2]
   simp only [Bk]; rw [if_pos (Or.inl cp)]
  ·have d1:decide (o<1)=false:=by simpa using cp
   have d2:decide (o > 18)=true:=by simp; omega
   have g1:(o == 1)=false:=by simp; omega
   have g2:(o == 2)=false:=by simp; omega
   simp (maxSteps:=10^6)+contextual(disch:=try exact dqd)only[ev1,simprocAttr,AV.int,AV.bool,AV.str,results51,predC,Ac,d1,d2,g1,g2]
   simp only [Bk]; rw [if_pos (Or.inr (Or.inl (by omega)))]
 have d1:decide (o<1)=false:=by simp; omega
 have d2:decide (o > 18)=false:=by simp; omega
 have es:=Da s
 have gi:o=1\/o=2\/o=8\/(o≠1/\o≠2/\o≠8):=by omega
 rcases gi with h|h|h|h
 ·have g1:(o == 1)=true:=by simp; omega
  have g2:(o == 2)=false:=by simp; omega
  have g8:(o == 8)=false:=by simp; omega
  simp (maxSteps:=10^6)+contextual(disch:=try exact dqd)only[ev1,simprocAttr,AV.int,AV.bool,AV.str,results51,predC,Ac,d1,d2,g1,g2,g8,c1,c2,c3,c4]
  clear c1 c2 c3 c4
  simp only [Bk,es]
  grind
 ·have g1:(o == 1)=false:=by simp; omega
  have g2:(o == 2)=true:=by simp; omega
  have g8:(o == 8)=false:=by simp; omega
  simp (maxSteps:=10^6)+contextual(disch:=try exact dqd)only[ev1,simprocAttr,AV.int,AV.bool,AV.str,results51,predC,Ac,d1,d2,g1,g2,g8,c1,c2,c3,c4]
  clear c1 c2 c3 c4
  simp only [Bk,es]
  grind
 ·have g1:(o == 1)=false:=by simp; omega
  have g2:(o == 2)=false:=by simp; omega
  have g8:(o == 8)=true:=by simp; omega
  by_cases iz:ks.length=2
  ·obtain ⟨x,hx⟩:=Af (show 0<ks.length by omega)
   obtain ⟨r,hr⟩:∃ r,ks=x :: r:=⟨_,by simpa using Al hx⟩
   have hx':=Es hx
   rw [Ag] at hx'
   simp (maxSteps:=10^6)+contextual(disch:=try exact dqd)only[ev1,simprocAttr,AV.int,AV.bool,AV.str,results51,predC,Ac,d1,d2,g1,g2,g8,c1,c2,c3,c4,hx']
   clear c1 c2 c3 c4 hx'
   rename_i lf
   clear lf hx iz
   subst hr
   simp only [Bk,es]
   grind
  ·have pg:Dt o ks.length=false:=by rw [h]; simp [Dt,iz]
   rw [pg] at c1
   simp (maxSteps:=10^6)+contextual(disch:=try exact dqd)only[ev1,simprocAttr,AV.int,AV.bool,AV.str,results51,predC,Ac,d1,d2,g1,g2,g8,c1,c2,c3,c4]
   clear c1 c2 c3 c4
   simp only [Bk,es,pg]
   grind
 ·have g1:(o == 1)=false:=by simp; omega
  have g2:(o == 2)=false:=by simp; omega
  have g8:(o == 8)=false:=by simp; omega
  simp (maxSteps:=10^6)+contextual(disch:=try exact dqd)only[ev1,simprocAttr,AV.int,AV.bool,AV.str,results51,predC,Ac,d1,d2,g1,g2,g8,c1,c2,c3,c4]
  clear c1 c2 c3 c4
  simp only [Bk,es]
  grind
theorem Nt:∀ (ks:List PT) (j:Nat) (q:PT),nth ks j=some q->Dm (ks.drop j)=if Ba q≠0 then Ba q else Dm (ks.drop (j+1))
 | x :: ks,0,q,h=>by simp only [nth,Option.some.injEq] at h; subst h; rfl
 | x :: ks,j+1,q,h=>by simp only [nth] at h; simpa using Nt ks j q h
 | [],_,_,h=>by simp [nth] at h
theorem Zh (o:Int) (s:ByteArray) (n:Int) (ks:List PT) (hlen:ks.length<=9223372036854775807) (ih:∀ q ∈ ks,∀ S tk k,cL prog 26 [.agg (predC q)] S tk k=some (.int (Ba q),S,tk,k)) :
  cL prog 26 [.agg (predC (.node o s n ks))] S tk k=some (.int (Ba (.node o s n ks)),S,tk,k):=by
 refine opP func26 ntmps26 ?_
 have c S tk k:=Abf S tk k o s n ks
 simp only [predC] at c
 simp only [Ba]
 generalize Bk (.node o s n ks)=e at *
 by_cases he:e=0
 case neg =>
  have d1:(e != 0)=true:=by simpa using he
  simp (maxSteps:=10^6)+contextual(disch:=try exact dqd)only[ev1,simprocAttr,AV.int,AV.bool,AV.str,results26,predC,c,d1]
  rw [if_pos he]
 have d1:(e != 0)=false:=by simpa using he
 rw [if_neg (by simpa using he)]
 simp (maxSteps:=10^6)+contextual(disch:=try exact dqd)only[ev1,simprocAttr,AV.int,AV.bool,AV.str,results26,predC,Ac,c,d1]
 clear c d1
 refine loop1 (P:=prog) (fun x st=>st.T.length=25/\(x<=ks.length)/\(Dm ks=Dm (ks.drop x))/\getT st.T 13=.frz (Bj ks) .unk/\getT st.T 14=.int (ks.length:Nat)/\getT st.T 15=.int (x:Nat)/\st.S=[⟨0,[.prim (.int .i64 o),.prim (.string s),.prim (.int .i64 n),.frz (Bj ks) .unk]⟩]) (fun x=>ks.length - x) (fun x=>.int (Dm ks)) (0) ?_ ?_
 case refine_2=>exact ⟨rfl,Nat.zero_le _,rfl,rfl,rfl,rfl,rfl⟩
 rintro j ⟨T,S',tk',n'⟩ ⟨hl,hj,hA,e13,e14,e15,eS⟩ IH
 subst eS
 obtain ⟨g,hg,hT⟩:=A4 hl
 rw [hg] at e13 e14 e15
 subst hT
 clear hg hl
 by_cases hlt:j<ks.length
 ·have d1:decide ((j:Int)<(ks.length:Int))=true:=by simpa using hlt
  obtain ⟨q,hq⟩:=Af hlt
  have bo:=Es hq
  have hw:=Hj (i:=j) (by omega)
  have hN:=ih q (Jk hq)
  have h1:=Nt ks j q hq
  rw [h1] at hA
  rw [Ag] at hN bo
  by_cases hz:Ba q=0
  ·have d2:(Ba q != 0)=false:=by simpa using hz
   rw [if_neg (by simpa using hz)] at hA
   simp (maxSteps:=10^6)+contextual(disch:=try exact dqd)only[ev1,simprocAttr,AV.int,AV.bool,AV.str,results26,e13,e14,e15,d1,bo,hw,hN,d2]
   exact IH (j+1) _ (by omega) ⟨rfl,hlt,hA,rfl,rfl,rfl,rfl⟩
  ·have d2:(Ba q != 0)=true:=by simpa using hz
   rw [if_pos hz] at hA
   simp (maxSteps:=10^6)+contextual(disch:=try exact dqd)only[ev1,simprocAttr,AV.int,AV.bool,AV.str,results26,e13,e14,e15,d1,bo,hw,hN,d2]
   exact hA.symm
 ·have d1:decide ((j:Int)<(ks.length:Int))=false:=by simpa using hlt
  have he:j=ks.length:=by omega
  simp (maxSteps:=10^6)+contextual(disch:=try exact dqd)only[ev1,simprocAttr,AV.int,AV.bool,AV.str,results26,e13,e14,e15,d1]
  rw [hA,he,List.drop_length]; rfl
end
mutual
theorem U4:∀ (p:PT),Ai p->∀ (S:List Ent) (tk:List Nat) (k:Nat),cL prog 26 [.agg (predC p)] S tk k=some (.int (Ba p),S,tk,k)
 | .node o s n ks,hn=>fun S tk k=>Zh S tk k o s n ks (by simp only [Ai] at hn; exact hn.1) (Qt ks (by simp only [Ai] at hn; exact hn.2))
theorem Qt:∀ (ks:List PT),Bd ks->∀ q ∈ ks,∀ (S:List Ent) (tk:List Nat) (k:Nat),cL prog 26 [.agg (predC q)] S tk k=some (.int (Ba q),S,tk,k)
 | [],_=>fun q h=>by simp at h
 | x :: ks,hn=>fun q h=>by
  simp only [Bd] at hn
  rcases List.mem_cons.1 h with e|h
  ·rw [e]; exact U4 x hn.1
  ·exact Qt ks hn.2 q h
end
theorem Qq (S:List Ent) (tk:List Nat) (k:Nat) (p:PT) (hn:Ai p):cL prog 10 [.agg (predC p)] S tk k=some (.int (Bc p),S,tk,k):=by
 have c1:=Qs p hn
 have c2:=Qr p hn
 have c3:=U4 p hn
 rw [Ag] at c1 c2 c3 ⊢
 refine opP func10 ntmps10 ?_
 unfold Bc
 by_cases h1:400<Bu p
 ·have d1:decide (Bu p > 400)=true:=by simp; omega
  simp (maxSteps:=10^6)+contextual(disch:=try exact dqd)only[ev1,simprocAttr,AV.int,AV.bool,AV.str,results10,c1,d1]
  rw [if_pos h1]
 have d1:decide (Bu p > 400)=false:=by simp; omega
 rw [if_neg h1]
 by_cases h2:40<Bg p
 ·have d2:decide (Bg p > 40)=true:=by simp; omega
  simp (maxSteps:=10^6)+contextual(disch:=try exact dqd)only[ev1,simprocAttr,AV.int,AV.bool,AV.str,results10,c1,c2,d1,d2]
  rw [if_pos h2]
 have d2:decide (Bg p > 40)=false:=by simp; omega
 simp (maxSteps:=10^6)+contextual(disch:=try exact dqd)only[ev1,simprocAttr,AV.int,AV.bool,AV.str,results10,c1,c2,c3,d1,d2]
 rw [if_neg h2]
def Jf (name:ByteArray):List (ByteArray × Int)->Int
 | []=>0
 | p :: r=>if sEq p.1 name then p.2 else Jf name r
def L3 (name:ByteArray):List (ByteArray × Int)->Nat->Int × Nat
 | [],_=>(-1,0)
 | p :: r,i=>if sEq p.1 name then (i,1) else ((L3 name r (i+1)).1,(L3 name r (i+1)).2+1)
def Dh (pt:List (ByteArray × Int)):Int->List (ByteArray × Int)->Int × Bool
 | s,[]=>(s,true)
 | s,c :: r=>if (mulS c.2 (Jf c.1 pt)).2 then (if (addS s (mulS c.2 (Jf c.1 pt)).1).2 then Dh pt (addS s (mulS c.2 (Jf c.1 pt)).1).1 r else (0,false)) else (0,false)
def Gd (cs:List (ByteArray × Int)) (n:Int) (pt:List (ByteArray × Int)):Int × Bool:=if B0 cs n=0 then Dh pt n cs else (0,false)
section
variable (S:List Ent) (tk:List Nat) (k:Nat)
theorem Abv (p c:ByteArray × Int) (id ep:Nat) (h:entAt S id ep=some (Bn c)):cL prog 45 [.agg (Bn p),.ref id ep 0] S tk k=some (.bool (sEq p.1 c.1),S,tk,k+1):=by
 refine opS func45 ntmps45 ?_
 simp (maxSteps:=10^6)+contextual(disch:=try exact dqd)only[evs1,simprocAttr,AV.int,AV.bool,AV.str,results45,Bn,h]
theorem Li (pt:List (ByteArray × Int)) (c:ByteArray × Int) (id ep:Nat) (hlen:pt.length<=1048576) (h:entAt S id ep=some (Bn c)) :
  cL prog 44 [Ad pt,.fn 45 [.ref id ep 0]] S tk k=some (.int (L3 c.1 pt 0).1,S,tk,k+(L3 c.1 pt 0).2):=by
 refine opS func44 ntmps44 ?_
 simp (maxSteps:=10^6)+contextual(disch:=try exact dqd)only[evs1,simprocAttr,AV.int,AV.bool,AV.str,results44,Ad]
 refine Agi (P:=prog) (fun x st=>st.T.length=19/\x.1<=pt.length/\getT st.T 0=Ad pt/\getT st.T 1=.fn 45 [.ref id ep 0]/\getT st.T 7=.int pt.length/\getT st.T 8=.int (x.1:Nat)/\st.S=S/\st.tk=tk/\st.n=x.2) (fun x=>pt.length - x.1)
  (fun x=>(.int (L3 c.1 (pt.drop x.1) x.1).1,S,tk,x.2+(L3 c.1 (pt.drop x.1) x.1).2)) (0,k) ?_ ?_
 case refine_2=>exact ⟨rfl,Nat.zero_le _,rfl,rfl,rfl,rfl,rfl,rfl,rfl⟩
 rintro ⟨i,m⟩ ⟨T,S',tk',n'⟩ ⟨hl,hi,e0,e1,e7,e8,eS,eT,eN⟩ IH
 simp only at eS eT eN
 subst eS eT eN
 obtain ⟨g,hg,hT⟩:=A4 hl
 rw [hg] at e0 e1 e7 e8
 subst hT
 clear hg hl
 simp only at hi e8
 by_cases hlt:i<pt.length
 ·have d1:decide ((i:Int)<(pt.length:Int))=true:=by simpa using hlt
  obtain ⟨p,hc⟩:=Af hlt
  have az:nth (pt.map Bn) i=some (Bn p):=by rw [Bl,hc]; rfl
  have hw:=A0 (i:=i) (by omega)
  have hf k:=Abv S' tk' k p c id ep h
  simp only [Bn] at hf az
  rw [Al hc]
  simp (maxSteps:=10^6)+contextual(disch:=try exact dqd)only[evs1,simprocAttr,AV.int,AV.bool,AV.str,results44,e0,e1,e7,e8,d1,Ad,az,hw,hf]
  refine ⟨fun h1=>by simp [L3,h1],fun h1=>?_⟩
  rw [IH (i+1,n'+1) _ (by simp only; omega) ⟨rfl,hlt,rfl,rfl,rfl,rfl,rfl,rfl,rfl⟩]
  simp [L3,h1]; omega
 ·have d1:decide ((i:Int)<(pt.length:Int))=false:=by simpa using hlt
  have he:i=pt.length:=by omega
  simp (maxSteps:=10^6)+contextual(disch:=try exact dqd)only[evs1,simprocAttr,AV.int,AV.bool,AV.str,results44,e0,e1,e7,e8,d1,Ad]
  simp only [he,List.drop_length]; rfl
theorem Vu (name:ByteArray):∀ (l:List (ByteArray × Int)) (i:Nat),((L3 name l i).1=-1/\Jf name l=0)\/∃ j p,(L3 name l i).1=((i+j:Nat):Int)/\nth l j=some p/\Jf name l=p.2
 | [],_=>.inl ⟨rfl,rfl⟩
 | p :: r,i=>by
  simp only [L3,Jf]
  by_cases h:sEq p.1 name=true
  ·rw [if_pos h,if_pos h]; exact .inr ⟨0,p,rfl,rfl,rfl⟩
  ·rw [if_neg h,if_neg h]
   rcases Vu name r (i+1) with ⟨h1,h2⟩|⟨j,q,h1,h2,h3⟩
   ·exact .inl ⟨h1,h2⟩
   ·exact .inr ⟨j+1,q,by rw [h1]; omega,h2,h3⟩
theorem Ry (cs:List (ByteArray × Int)) (n:Int) (pt:List (ByteArray × Int)) (hlen:cs.length<=1048576) (cb:pt.length<=1048576):cL prog 21 [linA cs n,Ad pt] S tk k=some (.tup [.int (Gd cs n pt).1,.bool (Gd cs n pt).2],S,tk,k):=by
 refine opP func21 ntmps21 ?_
 have hC S tk k:=K2 S tk k cs n hlen
 simp only [linA,Ad] at hC
 simp (maxSteps:=10^6)+contextual(disch:=try exact dqd)only[ev1,simprocAttr,AV.int,AV.bool,AV.str,results21,linA,Ad,hC]
 refine ⟨fun h=>?_,fun h=>?_⟩
 ·have:¬ B0 cs n=0:=by simpa using h
  simp [Gd,this]
 have h0:B0 cs n=0:=by simpa using h
 have hv:Gd cs n pt=Dh pt n cs:=by simp [Gd,h0]
 rw [hv]
 refine loop1 (P:=prog) (fun x st=>st.T.length=54/\x.1<=cs.length/\getT st.T 1=Ad pt/\getT st.T 2=.ref 0 0 0/\getT st.T 6=.int x.2/\getT st.T 19=Ad cs/\getT st.T 20=.int cs.length/\getT st.T 21=.int (x.1:Nat)/\st.S=[⟨0,[Ad cs,.int n]⟩]) (fun x=>cs.length - x.1)
  (fun x=>.tup [.int (Dh pt x.2 (cs.drop x.1)).1,.bool (Dh pt x.2 (cs.drop x.1)).2]) (0,n) ?_ ?_
 case refine_2=>exact ⟨rfl,Nat.zero_le _,rfl,rfl,rfl,rfl,rfl,rfl,rfl⟩
 rintro ⟨i,s⟩ ⟨T,S',tk',n'⟩ ⟨hl,hi,e1,e2,e6,e19,e20,e21,rfl⟩ IH
 obtain ⟨g,hg,hT⟩:=A4 hl
 rw [hg] at e1 e2 e6 e19 e20 e21
 subst hT
 clear hg hl h hv h0
 simp only at hi e6 e21
 by_cases hlt:i<cs.length
 ·have d1:decide ((i:Int)<(cs.length:Int))=true:=by simpa using hlt
  obtain ⟨c,hc⟩:=Af hlt
  have az:nth (cs.map Bn) i=some (Bn c):=by rw [Bl,hc]; rfl
  have hw:=A0 (i:=i) (by omega)
  rw [Al hc]
  have hI k:=Li [⟨0,[Ad cs,.int n]⟩,⟨n',Bn c⟩] tk' k pt c 1 n' cb (by simp [entAt,nth])
  simp only [Ad,Bn] at hI az
  have step:∀ v:Int,v=Jf c.1 pt->True:=fun _ _=>trivial
  rcases Vu c.1 pt 0 with ⟨h1,h2⟩|⟨j,p,h1,h2,h3⟩
  ·have d2:decide ((-1:Int) >= 0)=false:=rfl
   rw [h1] at hI
   simp (maxSteps:=10^6)+contextual(disch:=try exact dqd)only[ev1,simprocAttr,AV.int,AV.bool,AV.str,results21,e1,e2,e6,e19,e20,e21,d1,Ad,az,hw,hI,Ug,Ue,G9,d2]
   refine ⟨fun h5=>⟨fun h6=>?_,fun h6=>?_⟩,fun h5=>?_⟩
   ·rw [IH (i+1,_) _ (by simp only; omega) ⟨rfl,hlt,rfl,rfl,rfl,rfl,rfl,rfl,rfl⟩]
    simp [Dh,h2,h5,h6]
   ·simp [Dh,h2,h5,h6]
   ·simp [Dh,h2,h5]
  ·have ph:nth (pt.map Bn) j=some (Bn p):=by rw [Bl,h2]; rfl
   rw [Nat.zero_add] at h1
   have d2:decide ((j:Int) >= 0)=true:=by simp
   rw [h1] at hI
   simp only [Bn] at ph
   simp (maxSteps:=10^6)+contextual(disch:=try exact dqd)only[ev1,simprocAttr,AV.int,AV.bool,AV.str,results21,e1,e2,e6,e19,e20,e21,d1,Ad,az,hw,hI,Ug,Ue,G9,d2,ph]
   refine ⟨fun h5=>⟨fun h6=>?_,fun h6=>?_⟩,fun h5=>?_⟩
   ·rw [IH (i+1,_) _ (by simp only; omega) ⟨rfl,hlt,rfl,rfl,rfl,rfl,rfl,rfl,rfl⟩]
    simp [Dh,h3,h5,h6]
   ·simp [Dh,h3,h5,h6]
   ·simp [Dh,h3,h5]
 ·have d1:decide ((i:Int)<(cs.length:Int))=false:=by simpa using hlt
  have he:i=cs.length:=by omega
  simp (maxSteps:=10^6)+contextual(disch:=try exact dqd)only[ev1,simprocAttr,AV.int,AV.bool,AV.str,results21,e1,e2,e6,e19,e20,e21,d1,Ad]
  rw [he,List.drop_length]; exact ⟨rfl,rfl⟩
end
def H8 (l:List RowT):Bool:=decide (l.length<=6) && l.all fun r=>decide (r.1.length<=6)
theorem Acn {l:List RowT} (h:H8 l=true):l.length<=6/\∀ r ∈ l,r.1.length<=6:=by
 unfold H8 at h
 rw [Bool.and_eq_true,decide_eq_true_iff,List.all_eq_true] at h
 exact ⟨h.1,fun r hr=>by simpa using h.2 r hr⟩
def Ga (p:List (ByteArray × Int)):Bool->List RowT->Bool × Bool
 | is,[]=>(is,true)
 | is,r :: l=>if (Gd r.1 r.2.1 p).2=true then Ga p (is && (decide ((Gd r.1 r.2.1 p).1<=0) && (!r.2.2 || ((Gd r.1 r.2.1 p).1 == 0)))) l else (false,false)
section
variable (S:List Ent) (tk:List Nat) (k:Nat)
theorem X1 (l:List RowT):cL prog 4 [D4 l] S tk k=some (.bool (H8 l),S,tk,k):=by
 refine opP func4 ntmps4 (hp3:=rfl) ?_
 by_cases h6:l.length<=6
 case neg =>
  have d0:decide ((l.length:Int) > 6)=true:=by simp; omega
  have hr:H8 l=false:=by unfold H8; rw [decide_eq_false h6]; rfl
  rw [hr]
  simp (maxSteps:=10^6)+contextual(disch:=try exact dqd)only[ev1,simprocAttr,AV.int,AV.bool,AV.str,results4,D4,d0]
 have d0:decide ((l.length:Int) > 6)=false:=by simp; omega
 simp (maxSteps:=10^6)+contextual(disch:=try exact dqd)only[ev1,simprocAttr,AV.int,AV.bool,AV.str,results4,D4,d0]
 refine loop1 (P:=prog) (fun x st=>st.T.length=21/\(x<=l.length)/\(H8 l=(l.drop x).all fun r=>decide (r.1.length<=6))/\getT st.T 0=D4 l/\getT st.T 3=.int (x:Nat)/\st.S=[]) (fun x=>l.length - x) (fun x=>.bool (H8 l)) (0) ?_ ?_
 case refine_2=>exact ⟨rfl,Nat.zero_le _,by unfold H8; rw [decide_eq_true h6]; rfl,rfl,rfl,rfl⟩
 rintro i ⟨T,S',tk',n'⟩ ⟨hl,hi,hE,e0,e3,eS⟩ IH
 subst eS
 obtain ⟨g,hg,hT⟩:=A4 hl
 rw [hg] at e0 e3
 subst hT
 clear hg hl
 have eh:=A0 (i:=i) (by omega)
 by_cases la:i<l.length
 ·have d1:decide ((i:Int)<(l.length:Int))=true:=by simpa using la
  obtain ⟨r,hx⟩:=Af la
  have hx':=Z4 hx
  rw [Al hx,List.all_cons] at hE
  simp only [rowC,Ad] at hx'
  by_cases hc:r.1.length<=6
  ·have d2:decide ((r.1.length:Int) > 6)=false:=by simp; omega
   rw [decide_eq_true hc,Bool.true_and] at hE
   simp (maxSteps:=10^6)+contextual(disch:=try exact dqd)only[ev1,simprocAttr,AV.int,AV.bool,AV.str,results4,e0,e3,D4,Ad,d1,d2,hx',eh]
   exact IH (i+1) _ (by first|omega|(simp only; omega)) ⟨rfl,by first|omega|(dsimp only; omega),hE,(by first|rfl|simp only [getT,List.map_append,List.map_cons,List.map_nil,and_self]),(by first|rfl|simp only [getT,List.map_append,List.map_cons,List.map_nil,and_self]),(by first|rfl|simp only [getT,List.map_append,List.map_cons,List.map_nil,and_self])⟩
  ·have d2:decide ((r.1.length:Int) > 6)=true:=by simp; omega
   rw [decide_eq_false hc,Bool.false_and] at hE
   simp (maxSteps:=10^6)+contextual(disch:=try exact dqd)only[ev1,simprocAttr,AV.int,AV.bool,AV.str,results4,e0,e3,D4,Ad,d1,d2,hx',hE]
 ·have d1:decide ((i:Int)<(l.length:Int))=false:=by simpa using la
  have c7:i=l.length:=by omega
  rw [c7,List.drop_length] at hE
  simp (maxSteps:=10^6)+contextual(disch:=try exact dqd)only[ev1,simprocAttr,AV.int,AV.bool,AV.str,results4,e0,e3,D4,d1,hE,List.all_nil]
set_option maxRecDepth 100000 in
theorem Pg (l:List RowT) (p:List (ByteArray × Int)) (hl:l.length<=1000) (dj:∀ r ∈ l,r.1.length<=1048576) (hp:p.length<=1048576):cL prog 8 [D4 l,Ad p] S tk k=some (.tup [.bool (Ga p true l).1,.bool (Ga p true l).2],S,tk,k):=by
 refine opP func8 ntmps8 (hp3:=rfl) ?_
 simp (maxSteps:=10^6)+contextual(disch:=try exact dqd)only[ev1,simprocAttr,AV.int,AV.bool,AV.str,results8,D4,Ad]
 refine loop1 (P:=prog) (fun x st=>st.T.length=46/\(x.1<=l.length)/\(Ga p true l=Ga p x.2 (l.drop x.1))/\getT st.T 0=D4 l/\getT st.T 1=Ad p/\getT st.T 6=.prim (.bool x.2)/\getT st.T 7=.int (x.1:Nat)/\st.S=[]) (fun x=>l.length - x.1) (fun x=>.tup [.bool (Ga p true l).1,.bool (Ga p true l).2]) (0,true) ?_ ?_
 case refine_2=>exact ⟨rfl,Nat.zero_le _,rfl,rfl,rfl,rfl,rfl,rfl⟩
 rintro ⟨i,b⟩ ⟨T,S',tk',n'⟩ ⟨hl,hi,hE,e0,e1,e6,e7,eS⟩ IH
 simp only at hi hE e0 e1 e6 e7 eS
 subst eS
 obtain ⟨g,hg,hT⟩:=A4 hl
 rw [hg] at e0 e1 e6 e7
 subst hT
 clear hg hl
 have eh:=A0 (i:=i) (by omega)
 by_cases la:i<l.length
 ·have d1:decide ((i:Int)<(l.length:Int))=true:=by simpa using la
  obtain ⟨r,hx⟩:=Af la
  have hx':=Z4 hx
  have hV S tk k:=Ry S tk k r.1 r.2.1 p (dj r (Jk hx)) hp
  rw [Al hx,Ga] at hE
  obtain ⟨⟨v,o⟩,rj⟩:∃ q,Gd r.1 r.2.1 p=q:=⟨_,rfl⟩
  rw [rj] at hV hE
  simp only [linA,Ad] at hV
  simp only [rowC,Ad] at hx'
  simp only at hE
  cases o with
  | false =>
   rw [if_neg (by simp)] at hE
   rw [hE]
   simp (maxSteps:=10^6)+contextual(disch:=try exact dqd)only[ev1,simprocAttr,AV.int,AV.bool,AV.str,results8,e0,e1,e6,e7,D4,Ad,d1,hx',hV,Bool.not_false]
  | true =>
   rw [if_pos rfl] at hE
   cases c2:decide (v<=0) <;> cases c3:(v == 0) <;> cases he:r.2.2 <;> cases b
   all_goals
    rw [c2,c3,he] at hE
    simp only [Bool.true_and,Bool.false_and,Bool.and_true,Bool.and_false,Bool.not_true,Bool.not_false,Bool.true_or,Bool.false_or,Bool.or_true,Bool.or_false] at hE
    simp (maxSteps:=10^6)+contextual(disch:=try exact dqd)only[ev1,simprocAttr,AV.int,AV.bool,AV.str,results8,e0,e1,e6,e7,D4,Ad,d1,hx',hV,he,c2,c3,eh,Bool.not_false,Bool.not_true]
    exact IH (i+1,_) _ (by first|omega|(simp only; omega)) ⟨rfl,by first|omega|(dsimp only; omega),hE,(by first|rfl|simp only [getT,List.map_append,List.map_cons,List.map_nil,and_self]),(by first|rfl|simp only [getT,List.map_append,List.map_cons,List.map_nil,and_self]),(by first|rfl|simp only [getT,List.map_append,List.map_cons,List.map_nil,and_self]),(by first|rfl|simp only [getT,List.map_append,List.map_cons,List.map_nil,and_self]),(by first|rfl|simp only [getT,List.map_append,List.map_cons,List.map_nil,and_self])⟩
 ·have d1:decide ((i:Int)<(l.length:Int))=false:=by simpa using la
  have c7:i=l.length:=by omega
  rw [c7,List.drop_length,Ga] at hE
  rw [hE]
  simp (maxSteps:=10^6)+contextual(disch:=try exact dqd)only[ev1,simprocAttr,AV.int,AV.bool,AV.str,results8,e0,e1,e6,e7,D4,Ad,d1]
end
end
section
open Go
theorem Z0 {a b:Int} (h:(mulS a b).2=true):(mulS a b).1=a*b:=by
 unfold mulS chk at h ⊢
 split at h
 ·rename_i hc; rw [if_pos hc]
 ·cases h
theorem Yk {a b:Int} (h:(addS a b).2=true):(addS a b).1=a+b:=by
 unfold addS chk at h ⊢
 split at h
 ·rename_i hc; rw [if_pos hc]
 ·cases h
def linZ (pt:List (ByteArray × Int)):List (ByteArray × Int)->Int
 | []=>0
 | c :: cs=>c.2*Jf c.1 pt+linZ pt cs
theorem Pe {pt:List (ByteArray × Int)} : ∀ {cs:List (ByteArray × Int)} {s:Int},(Dh pt s cs).2=true->(Dh pt s cs).1=s+linZ pt cs
 | [],s,_=>by simp [Dh,linZ]
 | c :: cs,s,h=>by
  unfold Dh at h ⊢
  by_cases h1:(mulS c.2 (Jf c.1 pt)).2=true
  ·rw [if_pos h1] at h ⊢
   by_cases h2:(addS s (mulS c.2 (Jf c.1 pt)).1).2=true
   ·rw [if_pos h2] at h ⊢
    rw [Pe h,Yk h2,Z0 h1,linZ]; omega
   ·rw [if_neg h2] at h; cases h
  ·rw [if_neg h1] at h; cases h
def fndP (s:ByteArray):List (ByteArray × Int)->Int × Bool
 | []=>(0,false)
 | c :: l=>if sEq c.1 s=true then (c.2,true) else fndP s l
theorem Zg {s:ByteArray} : ∀ {l:List (ByteArray × Int)},(fndP s l).1=Jf s l
 | []=>rfl
 | c :: l=>by
  unfold fndP Jf
  cases sEq c.1 s with
  | true=>rfl
  | false=>simp only [Bool.false_eq_true,if_false]; exact Zg
def Jc (b:Bool):Int:=if b=true then 1 else 0
def opF (o a b:Int):Int × Bool :=
 if o=6 then addS a b else if o=8 then mulS a b else if o=10 then (Jc (a == b),true) else if o=13 then (Jc (decide (a<=b)),true) else (0,false)
def opL (o:Int):Option (List Int)->Int × Bool
 | some [a,b]=>opF o a b
 | _=>(0,false)
mutual
def valQ (pt:List (ByteArray × Int)):PT->Int × Bool
 | .node o s n ks=>if o=1 then (n,true) else if o=3 then ((fndP s pt).1,(fndP s pt).2 && inB (fndP s pt).1) else opL o (valL pt ks)
def valL (pt:List (ByteArray × Int)):List PT->Option (List Int)
 | []=>some []
 | k :: ks=>if (valQ pt k).2=true then (valL pt ks).map ((valQ pt k).1 :: ·) else none
end
mutual
def sumP:PT->Prop
 | .node o _ _ ks=>((o=1\/o=3)/\ks=[])\/((o=6\/o=8)/\ks.length=2/\Nf ks)
def Nf:List PT->Prop
 | []=>True
 | k :: ks=>sumP k/\Nf ks
end
mutual
def denQ (pt:List (ByteArray × Int)):PT->Int
 | .node o s n ks=>if o=1 then n else if o=3 then Jf s pt else if o=6 then denA pt ks else denM pt ks
def denA (pt:List (ByteArray × Int)):List PT->Int
 | []=>0
 | k :: ks=>denQ pt k+denA pt ks
def denM (pt:List (ByteArray × Int)):List PT->Int
 | []=>1
 | k :: ks=>denQ pt k*denM pt ks
end
theorem pair2 {α:Type} {l:List α} (h:l.length=2):∃ a b,l=[a,b]:=by
 match l,h with
 | [a,b],_=>exact ⟨a,b,rfl⟩
theorem Wk {pt:List (ByteArray × Int)} {a b:PT} : valL pt [a,b]=if (valQ pt a).2=true then if (valQ pt b).2=true then some [(valQ pt a).1,(valQ pt b).1] else none else none:=by
 unfold valL
 split
 ·unfold valL
  split
  ·unfold valL; rfl
  ·rfl
 ·rfl
mutual
theorem Uu {pt:List (ByteArray × Int)} : ∀ {p:PT},sumP p->(valQ pt p).2=true->(valQ pt p).1=denQ pt p
 | .node o s n ks,hs,h=>by
  rw [sumP] at hs
  rw [valQ] at h ⊢
  rw [denQ]
  rcases hs with ⟨rfl|rfl,rfl⟩|⟨ho,hl,hk⟩
  ·rfl
  ·exact Zg
  ·obtain ⟨a,b,rfl⟩:=pair2 hl
   have h1:o≠1:=by omega
   have h3:o≠3:=by omega
   rw [if_neg h1,if_neg h3] at h ⊢
   rw [if_neg h1,if_neg h3]
   have hall:=Wl (pt:=pt) hk
   rw [Wk] at h ⊢
   by_cases ha:(valQ pt a).2=true
   ·by_cases hb:(valQ pt b).2=true
    ·rw [if_pos ha,if_pos hb] at h ⊢
     have ea:=hall a (by simp) ha
     have eb:=hall b (by simp) hb
     rcases ho with rfl|rfl
     ·rw [if_pos rfl]
      have h:(addS (valQ pt a).1 (valQ pt b).1).2=true:=h
      show (addS (valQ pt a).1 (valQ pt b).1).1=_
      rw [Yk h,ea,eb]
      simp [denA]
     ·rw [if_neg (by omega)]
      have h:(mulS (valQ pt a).1 (valQ pt b).1).2=true:=h
      show (mulS (valQ pt a).1 (valQ pt b).1).1=_
      rw [Z0 h,ea,eb]
      simp [denM]
    ·rw [if_pos ha,if_neg hb] at h; cases h
   ·rw [if_neg ha] at h; cases h
theorem Wl {pt:List (ByteArray × Int)} : ∀ {ks:List PT},Nf ks->∀ k ∈ ks,(valQ pt k).2=true->(valQ pt k).1=denQ pt k
 | [],_,k,hk,_=>by cases hk
 | k0 :: ks,h,k,hk,hv=>by
  rw [Nf] at h
  rcases List.mem_cons.1 hk with e|hk
  ·rw [e] at hv ⊢; exact Uu h.1 hv
  ·exact Wl h.2 k hk hv
end
theorem Wc (n:Int) (s:ByteArray):sumP (.node 1 s n []):=by simp [sumP]
theorem Aav (n:Int) (s:ByteArray):sumP (J1 n s):=by unfold J1; split <;> simp [sumP,Nf]
theorem Wd:∀ (r:List PT) (x:PT),sumP x->(∀ y ∈ r,sumP y)->sumP (sumT x r)
 | [],x,h,_=>h
 | y :: r,x,h,hr=>Wd r _ (by rw [sumP,Nf,Nf,Nf]; exact .inr ⟨.inl rfl,rfl,h,hr y (List.mem_cons_self ..),trivial⟩) fun z hz=>hr z (List.mem_cons_of_mem _ hz)
theorem Kb {l:List PT} (h:∀ y ∈ l,sumP y):sumP (sumL l):=by
 cases l with
 | nil=>exact Wc 0 bE
 | cons x r=>exact Wd r x (h x (List.mem_cons_self ..)) fun y hy=>h y (List.mem_cons_of_mem _ hy)
theorem Mx {g:Int} : ∀ {cs:List (ByteArray × Int)},∀ y ∈ sideF g cs,sumP y
 | [],y,h=>by cases h
 | c :: cs,y,h=>by
  rw [sideF] at h
  split at h
  ·rcases List.mem_cons.1 h with rfl|h
   ·exact Aav _ _
   ·exact Mx y h
  ·exact Mx y h
theorem Hw {g n:Int} {cs:List (ByteArray × Int)} : ∀ y ∈ sidesF g cs n,sumP y:=fun y h=>by
 unfold sidesF conF at h
 rcases List.mem_append.1 h with h|h
 ·exact Mx y h
 ·split at h
  ·rw [List.mem_singleton.1 h]; exact Wc _ _
  ·cases h
theorem Vg (pt:List (ByteArray × Int)) (n:Int) (s:ByteArray):denQ pt (J1 n s)=n*Jf s pt:=by
 unfold J1
 split
 ·rename_i h; subst h; simp [denQ]
 ·simp [denQ,denM]
theorem Y3 (pt:List (ByteArray × Int)):∀ (r:List PT) (x:PT),denQ pt (sumT x r)=denQ pt x+denA pt r
 | [],x=>by simp [sumT,denA]
 | y :: r,x=>by
  rw [sumT,Y3 pt r,denA]
  simp only [denQ,denA]
  simp
  omega
theorem Vi (pt:List (ByteArray × Int)) (l:List PT):denQ pt (sumL l)=denA pt l:=by
 cases l with
 | nil=>simp [sumL,denQ,denA]
 | cons x r=>rw [sumL,Y3,denA]
theorem Px (pt:List (ByteArray × Int)):∀ (a b:List PT),denA pt (a++b)=denA pt a+denA pt b
 | [],b=>by simp [denA]
 | x :: a,b=>by rw [List.cons_append,denA,denA,Px pt a]; omega
theorem Vh (pt:List (ByteArray × Int)):∀ (cs:List (ByteArray × Int)),denA pt (sideF 1 cs) - denA pt (sideF (-1) cs)=linZ pt cs
 | []=>by simp [sideF,denA,linZ]
 | c :: cs=>by
  have ih:=Vh pt cs
  rw [sideF,sideF,linZ]
  by_cases h1:0<c.2
  ·rw [if_pos (by omega),if_neg (by omega),denA,Vg,Int.mul_one]; omega
  ·by_cases h2:c.2<0
   ·rw [if_neg (by omega),if_pos (by omega),denA,Vg,show c.2*-1=-c.2 by omega,Int.neg_mul]; omega
   ·have h3:c.2=0:=by omega
    rw [if_neg (by omega),if_neg (by omega),h3,Int.zero_mul]; omega
theorem Y2 (pt:List (ByteArray × Int)) (cs:List (ByteArray × Int)) (n:Int):denQ pt (sumL (sidesF 1 cs n)) - denQ pt (sumL (sidesF (-1) cs n))=linZ pt cs+n:=by
 rw [Vi,Vi]
 unfold sidesF
 rw [Px,Px]
 have h:=Vh pt cs
 have e:denA pt (conF 1 n) - denA pt (conF (-1) n)=n:=by
  unfold conF
  by_cases h1:0<n
  ·rw [if_pos (by omega),if_neg (by omega)]; simp [denA,denQ]
  ·by_cases h2:n<0
   ·rw [if_neg (by omega),if_pos (by omega)]; simp [denA,denQ]
   ·rw [if_neg (by omega),if_neg (by omega)]; simp [denA]; omega
 omega
theorem Acp {r:RowT} {pt:List (ByteArray × Int)} (h0:B0 r.1 r.2.1=0) (h1:(Ga pt true [r]).2=true) (h2:(valQ pt (D6 r)).2=true):(Ga pt true [r]).1=((valQ pt (D6 r)).1 != 0):=by
 have hv:(Gd r.1 r.2.1 pt).2=true:=by
  unfold Ga at h1
  by_cases hv:(Gd r.1 r.2.1 pt).2=true
  ·exact hv
  ·rw [if_neg hv] at h1; cases h1
 have e1:(Gd r.1 r.2.1 pt).1=r.2.1+linZ pt r.1:=by
  unfold Gd at hv ⊢
  rw [if_pos h0] at hv ⊢
  exact Pe hv
 rw [Ga,if_pos hv,Ga]
 unfold D6 at h2 ⊢
 rw [if_pos h0] at h2 ⊢
 have hne:∀ {b:Bool},(if b=true then (10:Int) else 13)≠1/\(if b=true then (10:Int) else 13)≠3:=fun {b}=>by cases b <;> simp
 rw [valQ,if_neg (hne (b:=r.2.2)).1,if_neg (hne (b:=r.2.2)).2,Wk] at h2 ⊢
 have d:=Y2 pt r.1 r.2.1
 have s1:sumP (sumL (sidesF 1 r.1 r.2.1)):=Kb Hw
 have s2:sumP (sumL (sidesF (-1) r.1 r.2.1)):=Kb Hw
 generalize sumL (sidesF 1 r.1 r.2.1)=A at *
 generalize sumL (sidesF (-1) r.1 r.2.1)=B at *
 by_cases ha:(valQ pt A).2=true
 ·by_cases hb:(valQ pt B).2=true
  ·rw [if_pos ha,if_pos hb] at h2 ⊢
   rw [e1]
   have ea:=Uu s1 ha
   have eb:=Uu s2 hb
   generalize (valQ pt A).1=a at *
   generalize (valQ pt B).1=b at *
   cases he:r.2.2 with
   | true =>
    show _=((opF 10 a b).1 != 0)
    have:opF 10 a b=(Jc (a == b),true):=rfl
    rw [this]
    simp only [Bool.not_true,Bool.false_or,Bool.true_and,Jc]
    by_cases hab:a=b
    ·have hz:r.2.1+linZ pt r.1=0:=by omega
     simp [hab,hz]
    ·have hz:r.2.1+linZ pt r.1≠0:=by omega
     simp [hab,hz]
   | false =>
    show _=((opF 13 a b).1 != 0)
    have:opF 13 a b=(Jc (decide (a<=b)),true):=rfl
    rw [this]
    simp only [Bool.not_false,Bool.true_or,Bool.and_true,Bool.true_and,Jc]
    by_cases hab:a<=b
    ·have hz:r.2.1+linZ pt r.1<=0:=by omega
     simp [hab,hz]
    ·have hz:¬ r.2.1+linZ pt r.1<=0:=by omega
     simp [hab,hz]
  ·rw [if_pos ha,if_neg hb] at h2; cases h2
 ·rw [if_neg ha] at h2; cases h2
/- the checks -/
def Ek (cs:List (ByteArray × Int)):Bool:=cs.all fun c=>Bc (.node 3 c.1 0 []) == 0
end
section
open Go Tryz
section
variable (S:List Ent) (tk:List Nat) (k:Nat)
theorem Af2 (s:ByteArray):cL prog 10 [.agg [.int 3,.str s,.int 0,.frz [] .nilc]] S tk k=some (.int (Bc (.node 3 s 0 [])),S,tk,k) :=
 (Ab1 (args:=[.agg [.int 3,.str s,.int 0,.frz [] .nilc]]) (args':=[.agg (predC (.node 3 s 0 []))]) rfl rfl rfl).trans (Qq S tk k (.node 3 s 0 []) (by simp [Ai,Bd]))
theorem X2 (cs:List (ByteArray × Int)) (n:Int) (hlen:cs.length<=1048576):cL prog 11 [linA cs n] S tk k=some (.bool (Ek cs),S,tk,k):=by
 refine opP func11 ntmps11 (hp3:=rfl) ?_
 simp (maxSteps:=10^6)+contextual(disch:=try exact dqd)only[ev1,simprocAttr,AV.int,AV.bool,AV.str,results11,linA,Ad]
 refine loop1 (P:=prog) (fun x st=>st.T.length=20/\(x<=cs.length)/\(Ek cs=Ek (cs.drop x))/\getT st.T 1=.ref 0 0 0/\getT st.T 3=.int (x:Nat)/\st.S=[⟨0,[.frz (cs.map Bn) .unk,.prim (.int .i64 n)]⟩]) (fun x=>cs.length - x) (fun x=>.bool (Ek cs)) (0) ?_ ?_
 case refine_2=>exact ⟨rfl,Nat.zero_le _,rfl,rfl,rfl,rfl⟩
 rintro i ⟨T,S',tk',n'⟩ ⟨hl,hi,hE,e1,e3,eS⟩ IH
 subst eS
 obtain ⟨g,hg,hT⟩:=A4 hl
 rw [hg] at e1 e3
 subst hT
 clear hg hl
 have eh:=A0 (i:=i) (by omega)
 by_cases la:i<cs.length
 ·have d1:decide ((i:Int)<(cs.length:Int))=true:=by simpa using la
  obtain ⟨c,hx⟩:=Af la
  have hx':nth (cs.map Bn) i=some (Bn c):=by rw [Bl,hx]; rfl
  have hC S tk k:=Af2 S tk k c.1
  rw [Al hx] at hE
  simp only [Bn] at hx'
  by_cases h0:Bc (.node 3 c.1 0 [])=0
  ·have c1:(Bc (.node 3 c.1 0 []) != 0)=false:=by simpa using h0
   have hE:Ek cs=Ek (cs.drop (i+1)):=by rw [hE]; simp [Ek,h0]
   simp (maxSteps:=10^6)+contextual(disch:=try exact dqd)only[ev1,simprocAttr,AV.int,AV.bool,AV.str,results11,e1,e3,d1,hx',hC,c1,eh]
   exact IH (i+1) _ (by first|omega|(simp only; omega)) ⟨rfl,by first|omega|(dsimp only; omega),hE,(by first|rfl|simp only [getT,List.map_append,List.map_cons,List.map_nil,and_self]),(by first|rfl|simp only [getT,List.map_append,List.map_cons,List.map_nil,and_self]),(by first|rfl|simp only [getT,List.map_append,List.map_cons,List.map_nil,and_self])⟩
  ·have c1:(Bc (.node 3 c.1 0 []) != 0)=true:=by simpa using h0
   have hE:Ek cs=false:=by rw [hE]; simp [Ek,h0]
   rw [hE]
   simp (maxSteps:=10^6)+contextual(disch:=try exact dqd)only[ev1,simprocAttr,AV.int,AV.bool,AV.str,results11,e1,e3,d1,hx',hC,c1]
 ·have d1:decide ((i:Int)<(cs.length:Int))=false:=by simpa using la
  have c7:i=cs.length:=by omega
  have hE:Ek cs=true:=by rw [hE,c7,List.drop_length]; rfl
  rw [hE]
  simp (maxSteps:=10^6)+contextual(disch:=try exact dqd)only[ev1,simprocAttr,AV.int,AV.bool,AV.str,results11,e1,e3,d1]
end
section
variable (S:List Ent) (tk:List Nat) (k:Nat)
theorem R1 (pt:List (ByteArray × Int)) (s:ByteArray) (hlen:pt.length<=1048576):cL prog 88 [Ad pt,.str s] S tk k=some (.tup [.int (fndP s pt).1,.bool (fndP s pt).2],S,tk,k):=by
 refine opP func88 ntmps88 (hp3:=rfl) ?_
 simp (maxSteps:=10^6)+contextual(disch:=try exact dqd)only[ev1,simprocAttr,AV.int,AV.bool,AV.str,results88,Ad]
 refine loop1 (P:=prog) (fun x st=>st.T.length=21/\(x<=pt.length)/\(fndP s pt=fndP s (pt.drop x))/\getT st.T 1=.str s/\getT st.T 8=Ad pt/\getT st.T 9=.int (pt.length:Nat)/\getT st.T 10=.int (x:Nat)/\st.S=[]) (fun x=>pt.length - x) (fun x=>.tup [.int (fndP s pt).1,.bool (fndP s pt).2]) (0) ?_ ?_
 case refine_2=>exact ⟨rfl,Nat.zero_le _,rfl,rfl,rfl,rfl,rfl,rfl⟩
 rintro i ⟨T,S',tk',n'⟩ ⟨hl,hi,hF,e1,e8,e9,e10,eS⟩ IH
 subst eS
 obtain ⟨g,hg,hT⟩:=A4 hl
 rw [hg] at e1 e8 e9 e10
 subst hT
 clear hg hl
 have eh:=A0 (i:=i) (by omega)
 by_cases la:i<pt.length
 ·have d1:decide ((i:Int)<(pt.length:Int))=true:=by simpa using la
  obtain ⟨c,hx⟩:=Af la
  have hx':nth (pt.map Bn) i=some (Bn c):=by rw [Bl,hx]; rfl
  rw [Al hx,fndP] at hF
  simp only [Bn] at hx'
  cases hs:sEq c.1 s with
  | true =>
   rw [hs,if_pos rfl] at hF
   rw [hF]
   simp (maxSteps:=10^6)+contextual(disch:=try exact dqd)only[ev1,simprocAttr,AV.int,AV.bool,AV.str,results88,e1,e8,e9,e10,Ad,d1,hx',hs]
  | false =>
   rw [hs,if_neg (by simp)] at hF
   simp (maxSteps:=10^6)+contextual(disch:=try exact dqd)only[ev1,simprocAttr,AV.int,AV.bool,AV.str,results88,e1,e8,e9,e10,Ad,d1,hx',hs,eh]
   exact IH (i+1) _ (by first|omega|(simp only; omega)) ⟨rfl,by first|omega|(dsimp only; omega),hF,(by first|rfl|simp only [getT,List.map_append,List.map_cons,List.map_nil,and_self,digC]),(by first|rfl|simp only [getT,List.map_append,List.map_cons,List.map_nil,and_self,digC]),(by first|rfl|simp only [getT,List.map_append,List.map_cons,List.map_nil,and_self,digC]),(by first|rfl|simp only [getT,List.map_append,List.map_cons,List.map_nil,and_self,digC]),(by first|rfl|simp only [getT,List.map_append,List.map_cons,List.map_nil,and_self,digC])⟩
 ·have d1:decide ((i:Int)<(pt.length:Int))=false:=by simpa using la
  have c7:i=pt.length:=by omega
  rw [c7,List.drop_length] at hF
  rw [hF]
  simp (maxSteps:=10^6)+contextual(disch:=try exact dqd)only[ev1,simprocAttr,AV.int,AV.bool,AV.str,results88,e1,e8,e9,e10,Ad,d1,fndP]
theorem P5 (b:Bool):cL prog 91 [.bool b] S tk k=some (.int (Jc b),S,tk,k):=by
 refine opP func91 ntmps91 (hp3:=rfl) ?_
 cases b <;>
 simp (maxSteps:=10^6)+contextual(disch:=try exact dqd)only[ev1,simprocAttr,AV.int,AV.bool,AV.str,results91,Jc]
theorem Kr (o a b:Int) (ho:o=6\/o=8\/o=10\/o=13):cL prog 92 [.int o,.int a,.int b] S tk k=some (.tup [.int (opF o a b).1,.bool (opF o a b).2],S,tk,k):=by
 have hA S tk k:=Ue S tk k a b
 have hM S tk k:=Ug S tk k a b
 have hT S tk k c:=P5 S tk k c
 rcases ho with rfl|rfl|rfl|rfl
 ·rw [show opF 6 a b=addS a b from rfl]
  refine opP func92 ntmps92 (hp3:=rfl) ?_
  simp (maxSteps:=10^6)+contextual(disch:=try exact dqd)only[ev1,simprocAttr,AV.int,AV.bool,AV.str,results92,hA]
 ·rw [show opF 8 a b=mulS a b from rfl]
  refine opP func92 ntmps92 (hp3:=rfl) ?_
  simp (maxSteps:=10^6)+contextual(disch:=try exact dqd)only[ev1,simprocAttr,AV.int,AV.bool,AV.str,results92,hM]
 ·rw [show opF 10 a b=(Jc (a == b),true) from rfl]
  refine opP func92 ntmps92 (hp3:=rfl) ?_
  simp (maxSteps:=10^6)+contextual(disch:=try exact dqd)only[ev1,simprocAttr,AV.int,AV.bool,AV.str,results92,hT]
 ·rw [show opF 13 a b=(Jc (decide (a<=b)),true) from rfl]
  refine opP func92 ntmps92 (hp3:=rfl) ?_
  simp (maxSteps:=10^6)+contextual(disch:=try exact dqd)only[ev1,simprocAttr,AV.int,AV.bool,AV.str,results92,hT]
end
mutual
def valP:PT->Prop
 | .node o _ _ ks=>((o=1\/o=3)/\ks=[])\/((o=6\/o=8\/o=10\/o=13)/\ks.length=2/\M1 ks)
def M1:List PT->Prop
 | []=>True
 | k :: ks=>valP k/\M1 ks
end
theorem Tk {pt:List (ByteArray × Int)} {q:PT} : ∀ {ks:List PT} {i:Nat} {acc:List Int},nth ks i=some q->valL pt (ks.take i)=some acc ->
  ((valQ pt q).2=true->valL pt (ks.take (i+1))=some (acc++[(valQ pt q).1]))/\((valQ pt q).2=false->valL pt ks=none)
 | [],i,acc,h,_=>by simp [nth] at h
 | x :: ks,0,acc,h,ha=>by
  simp only [nth,Option.some.injEq] at h
  subst h
  simp only [List.take_zero,valL,Option.some.injEq] at ha
  subst ha
  refine ⟨fun hv=>?_,fun hv=>?_⟩
  ·simp [valL,hv]
  ·simp [valL,hv]
 | x :: ks,i+1,acc,h,ha=>by
  simp only [nth] at h
  rw [List.take_succ_cons,valL] at ha
  by_cases hx:(valQ pt x).2=true
  ·rw [if_pos hx,Option.map_eq_some_iff] at ha
   obtain ⟨acc',ha,rfl⟩:=ha
   obtain ⟨h1,h2⟩:=Tk h ha
   refine ⟨fun hv=>?_,fun hv=>?_⟩
   ·rw [List.take_succ_cons,valL,if_pos hx,h1 hv]; rfl
   ·rw [valL,if_pos hx,h2 hv]; rfl
  ·rw [if_neg hx] at ha; cases ha
theorem Xr (l:List Int):B7 1 (l.map digC)=true:=by simp [B7,digC]
def atA (pt:List (ByteArray × Int)):AV:=.agg [Ad pt,.frz [] .unk]
section
variable (S:List Ent) (tk:List Nat) (k:Nat)
set_option maxRecDepth 100000 in
set_option maxHeartbeats 4000000 in
theorem Xy (pt:List (ByteArray × Int)) (hp:pt.length<=1048576) (o:Int) (s:ByteArray) (n:Int) (ks:List PT)
  (hv:((o=1\/o=3)/\ks=[])\/((o=6\/o=8\/o=10\/o=13)/\ks.length=2))
  (ih:∀ q ∈ ks,∀ S tk k,cL prog 50 [atA pt,.agg (predC q)] S tk k=some (.tup [.int (valQ pt q).1,.bool (valQ pt q).2],S,tk,k)) :
  cL prog 50 [atA pt,.agg (predC (.node o s n ks))] S tk k=some (.tup [.int (valQ pt (.node o s n ks)).1,.bool (valQ pt (.node o s n ks)).2],S,tk,k):=by
 have hlen:ks.length<=2:=by rcases hv with ⟨-,rfl⟩|⟨-,h⟩ <;> simp_all
 refine opP func50 ntmps50 (hp3:=rfl) ?_
 simp (maxSteps:=10^6)+contextual(disch:=try exact dqd)only[ev1,simprocAttr,AV.int,AV.bool,AV.str,results50,atA,predC,Ac]
 refine loop1 (P:=prog) (fun x st=>st.T.length=93/\(x.1<=ks.length)/\(valL pt (ks.take x.1)=some x.2.1)/\(Aq st.tk x.2.2 1=true)/\(x.2.1.length=x.1)/\getT st.T 2=.ref 0 0 0/\getT st.T 3=.ref 1 1 0/\getT st.T 6=.frz (x.2.1.map digC) x.2.2/\getT st.T 14=.frz (Bj ks) .unk/\getT st.T 15=.int (ks.length:Nat)/\getT st.T 16=.int (x.1:Nat)/\st.S=[⟨0,[Ad pt,.frz [] .unk]⟩,⟨1,[.prim (.int .i64 o),.prim (.string s),.prim (.int .i64 n),.frz (Bj ks) .unk]⟩]) (fun x=>ks.length - x.1) (fun x=>.tup [.int (valQ pt (.node o s n ks)).1,.bool (valQ pt (.node o s n ks)).2]) (0,[],.nilc) ?_ ?_
 case refine_2=>exact ⟨rfl,Nat.zero_le _,rfl,rfl,rfl,rfl,rfl,rfl,rfl,rfl,rfl,rfl⟩
 rintro ⟨i,acc,c⟩ ⟨T,S',tk',n'⟩ ⟨hl,hi,hA,ag,jk,e2,e3,e6,e14,e15,e16,eS⟩ IH
 simp only at hi hA ag jk e2 e3 e6 e14 e15 e16 eS
 subst eS
 obtain ⟨g,hg,hT⟩:=A4 hl
 rw [hg] at e2 e3 e6 e14 e15 e16
 subst hT
 clear hg hl
 have eh:=A0 (i:=i) (by omega)
 have hr:=Xr acc
 have hn:(acc.map digC).length+1<=1048576:=by simp; omega
 have jv:=Jz ag
 by_cases la:i<ks.length
 ·have d1:decide ((i:Int)<(ks.length:Int))=true:=by simpa using la
  obtain ⟨q,hq⟩:=Af la
  have bo:=Es hq
  have hN:=ih q (Jk hq)
  obtain ⟨st1,st2⟩:=Tk hq hA
  rw [Ag] at hN bo
  simp only [atA,Ad] at hN
  have ho:o≠1/\o≠3:=by
   rcases hv with ⟨-,rfl⟩|⟨h,-⟩
   ·simp at la
   ·omega
  cases hb:(valQ pt q).2 with
  | true =>
   rw [hb] at hN
   simp (maxSteps:=10^6)+contextual(disch:=try exact dqd)only[ev1,simprocAttr,AV.int,AV.bool,AV.str,results50,e2,e3,e6,e14,e15,e16,Ad,Ac,d1,bo,hN,hr,eh,Bool.not_true]
   exact IH (i+1,acc++[(valQ pt q).1],Ed tk' c 1) _ (by first|omega|(simp only; omega)) ⟨rfl,by first|omega|(dsimp only; omega),st1 hb,jv,by simp; omega,(by first|rfl|simp only [getT,List.map_append,List.map_cons,List.map_nil,and_self,digC]),(by first|rfl|simp only [getT,List.map_append,List.map_cons,List.map_nil,and_self,digC]),(by first|rfl|simp only [getT,List.map_append,List.map_cons,List.map_nil,and_self,digC]),(by first|rfl|simp only [getT,List.map_append,List.map_cons,List.map_nil,and_self,digC]),(by first|rfl|simp only [getT,List.map_append,List.map_cons,List.map_nil,and_self,digC]),(by first|rfl|simp only [getT,List.map_append,List.map_cons,List.map_nil,and_self,digC]),(by first|rfl|simp only [getT,List.map_append,List.map_cons,List.map_nil,and_self,digC])⟩
  | false =>
   rw [hb] at hN
   have kb:valQ pt (.node o s n ks)=(0,false):=by rw [valQ,if_neg ho.1,if_neg ho.2,st2 hb]; rfl
   rw [kb]
   simp (maxSteps:=10^6)+contextual(disch:=try exact dqd)only[ev1,simprocAttr,AV.int,AV.bool,AV.str,results50,e2,e3,e6,e14,e15,e16,Ad,Ac,d1,bo,hN,Bool.not_false]
 ·have d1:decide ((i:Int)<(ks.length:Int))=false:=by simpa using la
  have c7:i=ks.length:=by omega
  rw [c7,List.take_length] at hA
  have hF S tk k:=R1 S tk k pt s hp
  have hI S tk k:=Mh S tk k (fndP s pt).1
  have i1:intN (AV.prim (.int .i64 1))=some 1:=rfl
  rcases hv with ⟨rfl|rfl,rfl⟩|⟨ho,h2⟩
  ·obtain rfl:i=0:=by simpa using c7
   rw [show valQ pt (.node 1 s n [])=(n,true) from rfl]
   simp (maxSteps:=10^6)+contextual(disch:=try exact dqd)only[ev1,simprocAttr,AV.int,AV.bool,AV.str,results50,e2,e3,e6,e14,e15,e16,Ad,Ac,d1]
  ·obtain rfl:i=0:=by simpa using c7
   rw [show valQ pt (.node 3 s n [])=((fndP s pt).1,(fndP s pt).2 && inB (fndP s pt).1) from rfl]
   simp only [Ad] at hF
   cases hb:(fndP s pt).2 with
   | true =>
    rw [hb] at hF
    simp (maxSteps:=10^6)+contextual(disch:=try exact dqd)only[ev1,simprocAttr,AV.int,AV.bool,AV.str,results50,e2,e3,e6,e14,e15,e16,Ad,Ac,d1,hF,hI,Bool.true_and]
   | false =>
    rw [hb] at hF
    simp (maxSteps:=10^6)+contextual(disch:=try exact dqd)only[ev1,simprocAttr,AV.int,AV.bool,AV.str,results50,e2,e3,e6,e14,e15,e16,Ad,Ac,d1,hF,Bool.false_and]
  ·obtain ⟨a,b,rfl⟩:=pair2 (by rw [jk,c7,h2]:acc.length=2)
   have hO S tk k:=Kr S tk k o a b ho
   have kb:valQ pt (.node o s n ks)=opF o a b:=by rw [valQ,if_neg (by omega),if_neg (by omega),hA]; rfl
   rw [kb]
   have q1:(o == 1)=false:=by simp; omega
   have q2:(o == 2)=false:=by simp; omega
   have q3:(o == 3)=false:=by simp; omega
   have q4:(o == 4)=false:=by simp; omega
   have q5:(o == 5)=false:=by simp; omega
   have q9:(o == 9)=false:=by simp; omega
   have q14:(o == 14)=false:=by simp; omega
   simp (maxSteps:=10^6)+contextual(disch:=try exact dqd)only[ev1,simprocAttr,AV.int,AV.bool,AV.str,results50,e2,e3,e6,e14,e15,e16,Ad,Ac,d1,q1,q2,q3,q4,q5,q9,q14,hO,i1,digC]
end
mutual
theorem Jw (pt:List (ByteArray × Int)) (hp:pt.length<=1048576):∀ (p:PT),valP p->∀ (S:List Ent) (tk:List Nat) (k:Nat),cL prog 50 [atA pt,.agg (predC p)] S tk k=some (.tup [.int (valQ pt p).1,.bool (valQ pt p).2],S,tk,k)
 | .node o s n ks,hn=>fun S tk k=>by
  rw [valP] at hn
  refine Xy S tk k pt hp o s n ks (hn.imp id fun h=>⟨h.1,h.2.1⟩) (H9 pt hp ks ?_)
  rcases hn with ⟨-,rfl⟩|⟨-,-,h⟩
  ·simp only [M1]
  ·exact h
theorem H9 (pt:List (ByteArray × Int)) (hp:pt.length<=1048576):∀ (ks:List PT),M1 ks->∀ q ∈ ks,∀ (S:List Ent) (tk:List Nat) (k:Nat),cL prog 50 [atA pt,.agg (predC q)] S tk k=some (.tup [.int (valQ pt q).1,.bool (valQ pt q).2],S,tk,k)
 | [],_=>fun q h=>by simp at h
 | x :: ks,hn=>fun q h=>by
  simp only [M1] at hn
  rcases List.mem_cons.1 h with e|h
  ·rw [e]; exact Jw pt hp x hn.1
  ·exact H9 pt hp ks hn.2 q h
end
theorem sl_tl {P:Program} {t:TypeId} {sz:Nat} {es:List (List AV)} {c:Cap} (hs:(Au P t).bind (szOf P)=some sz) (hr:B7 sz es=true) (h:1<=es.length):Du P t (.frz es c) (some (.prim (.int .i64 1))) none none=some (.frz (es.drop 1) .unk):=by
 have e:bound es.length (some (.prim (.int .i64 1))) 0=some 1:=by
  show (if 1<=es.length then some 1 else none)=some 1
  rw [if_pos h]
 have e2:bound es.length (none:Option AV) es.length=some es.length:=rfl
 simp only [Du,hs,hr,if_true,e2,e,List.take_length]
section
variable (S:List Ent) (tk:List Nat) (k:Nat)
theorem L4 (n:Int) (s:ByteArray):cL prog 19 [.int n,.str s] S tk k=some (.agg (predC (J1 n s)),S,tk,k):=by
 unfold J1
 refine opP func19 ntmps19 (hp3:=by split <;> rfl) ?_
 by_cases h:n=1
 ·have d:(n == 1)=true:=by simpa using h
  rw [if_pos h]
  simp (maxSteps:=10^6)+contextual(disch:=try exact dqd)only[ev1,simprocAttr,AV.int,AV.bool,AV.str,results19,d,predC,Bj,bE]
 ·have d:(n == 1)=false:=by simpa using h
  rw [if_neg h]
  simp (maxSteps:=10^6)+contextual(disch:=try exact dqd)only[ev1,simprocAttr,AV.int,AV.bool,AV.str,results19,d,predC,Bj,bE]
set_option maxRecDepth 100000 in
theorem Jg (l:List PT) (hl:l.length<=1000):cL prog 20 [.frz (l.map predC) .unk] S tk k=some (.agg (predC (sumL l)),S,tk,k):=by
 rw [Ag]
 refine opP func20 ntmps20 (hp3:=rfl) ?_
 cases l with
 | nil =>
  have d:(((0:Nat):Int) == 0)=true:=rfl
  simp (maxSteps:=10^6)+contextual(disch:=try exact dqd)only[ev1,simprocAttr,AV.int,AV.bool,AV.str,results20,List.map_nil,d,sumL,PT.op,PT.name,PT.n,PT.kids,Bj,bE]
 | cons x r =>
  have hlr:r.length<=1000:=by simp at hl; omega
  generalize hT:sumL (x :: r)=T
  have ka:sumT x r=T:=hT
  have d:(((r.length+1:Nat):Int) == 0)=false:=beq_eq_false_iff_ne.2 (by omega)
  have gn:nth (predC x :: r.map predC) 0=some (predC x):=rfl
  have rk:(predC x :: r.map predC).drop 1=r.map predC:=rfl
  rw [Ag] at gn
  have hr:B7 4 (predC x :: r.map predC)=true:=E9 (f:=predC) (sz:=4) J4 (x :: r)
  have kd:=sl_tl (P:=prog) (t:=34) (c:=.unk) (by simp only [tys,Option.bind_some]) hr (by simp)
  rw [rk,Ag] at kd
  simp (maxSteps:=10^6)+contextual(disch:=try exact dqd)only[ev1,simprocAttr,AV.int,AV.bool,AV.str,results20,List.map_cons,Ag x,d,gn,kd]
  refine loop1 (P:=prog) (fun x st=>st.T.length=26/\(x.1<=r.length)/\(sumT x.2.1 (r.drop x.1)=T)/\getT st.T 2=.ref 0 0 0/\getT st.T 3=.ref 1 1 0/\getT st.T 14=.frz (r.map predC) .unk/\getT st.T 15=.int (r.length:Nat)/\getT st.T 16=.int (x.1:Nat)/\st.S=[⟨0,[.int 0,.str bE,.int 0,.frz [] .nilc]⟩,⟨1,[.prim (.int .i64 x.2.1.op),.prim (.string x.2.1.name),.prim (.int .i64 x.2.1.n),.frz (Bj x.2.1.kids) x.2.2]⟩]) (fun x=>r.length - x.1) (fun x=>.agg [.prim (.int .i64 T.op),.prim (.string T.name),.prim (.int .i64 T.n),.frz (Bj T.kids) .unk]) (0,x,.unk) ?_ ?_
  case refine_2=>exact ⟨rfl,Nat.zero_le _,ka,rfl,rfl,rfl,rfl,rfl,rfl⟩
  rintro ⟨j,x,c2⟩ ⟨T,S',tk',n'⟩ ⟨hl,hj,hs,e2,e3,e14,e15,e16,eS⟩ IH
  simp only at hj hs e2 e3 e14 e15 e16 eS
  subst eS
  obtain ⟨g,hg,hT⟩:=A4 hl
  rw [hg] at e2 e3 e14 e15 e16
  subst hT
  clear hg hl
  by_cases lj:j<r.length
  ·have d1:decide ((j:Int)<(r.length:Int))=true:=by simpa using lj
   obtain ⟨y,hy⟩:=Af lj
   have fj:nth (r.map predC) j=some (predC y):=by rw [Bl,hy]; rfl
   have hw:=A0 (i:=j) (by omega)
   rw [Ag] at fj
   rw [Al hy] at hs
   simp only [sumT] at hs
   simp (maxSteps:=10^6)+contextual(disch:=try exact dqd)only[ev1,simprocAttr,AV.int,AV.bool,AV.str,results20,e2,e3,e14,e15,e16,d1,fj,hw]
   refine IH (j+1,.node 6 bE 0 [x,y],.tight) _ (by simp only; omega) ⟨rfl,by simp only; omega,hs,rfl,rfl,rfl,rfl,rfl,?_⟩
   simp [PT.op,PT.name,PT.n,PT.kids,Bj,Ag,bE]
  ·have d1:decide ((j:Int)<(r.length:Int))=false:=by simpa using lj
   have he:j=r.length:=by omega
   rw [he,List.drop_length] at hs
   simp only [sumT] at hs
   subst hs
   simp (maxSteps:=10^6)+contextual(disch:=try exact dqd)only[ev1,simprocAttr,AV.int,AV.bool,AV.str,results20,e2,e3,e14,e15,e16,d1]
end
def Yw:Cap->Option Nat
 | .tok id _ _=>some id
 | _=>none
def Kw (c d:Cap):Prop:=∀ i,Yw c=some i->Yw d=some i->False
theorem Kw.symm {c d:Cap} (h:Kw c d):Kw d c:=fun i h1 h2=>h i h2 h1
theorem Yp {c:Cap} : Kw .nilc c:=fun _ h _=>by cases h
theorem Vy {tk:List Nat} {d:Cap} {sz:Nat} (h:Aq tk d sz=true) {i:Nat} (hi:Yw d=some i):i<tk.length:=by
 cases d <;> simp only [Yw,Option.some.injEq,reduceCtorEq] at hi
 subst hi
 simp only [Aq,Bool.and_eq_true,beq_iff_eq] at h
 exact A7 h.2
theorem Kt {tk:List Nat} {c d:Cap} {sz:Nat} (hd:Aq tk d sz=true) (h:Kw c d):Aq (H3 tk c) d sz=true:=by
 cases d with
 | unk=>simp [Aq] at hd
 | nl=>simp [Aq] at hd
 | nn=>simp [Aq] at hd
 | tight=>rfl
 | nilc=>rfl
 | tok id ep s =>
  have hlt:=Vy hd (i:=id) rfl
  simp only [Aq,Bool.and_eq_true,beq_iff_eq] at hd ⊢
  refine ⟨hd.1,?_⟩
  have ci:nth (tk++[0]) id=nth tk id:=by rw [Ab,Ab,List.getElem?_append_left hlt]
  cases c with
  | tok id' ep' s' =>
   have hne:id'≠id:=fun e=>h id (by rw [e]; rfl) rfl
   have key:∀ (l:List Nat) (i j v:Nat),i≠j->nth (put l i v) j=nth l j:=by
    intro l
    induction l with
    | nil=>intro i j v _; cases i <;> rfl
    | cons a l ih =>
     intro i j v hij
     cases i with
     | zero=>cases j with
      | zero=>exact absurd rfl hij
      | succ j=>rfl
     | succ i=>cases j with
      | zero=>rfl
      | succ j=>exact ih i j v (by omega)
   show nth (put tk id' (ep'+1)) id=some ep
   rw [key _ _ _ _ hne]; exact hd.2
  | _ =>
   show nth (tk++[0]) id=some ep
   rw [ci]; exact hd.2
theorem Ky {tk:List Nat} {c d:Cap} {sz sz':Nat} (hd:Aq tk d sz'=true) (h:Kw c d):Kw (Ed tk c sz) d:=fun i h1 h2=>by
 cases c with
 | tok id ep s=>exact h i h1 h2
 | _ =>
  have hlt:=Vy hd h2
  simp only [Ed,Yw,Option.some.injEq] at h1
  omega
section
variable (S:List Ent) (tk:List Nat) (k:Nat)
theorem Aao {A:List (List AV)} {c:Cap} : cL prog 20 [.frz A c] S tk k=cL prog 20 [.frz A .unk] S tk k:=Ab1 rfl rfl rfl
set_option maxHeartbeats 4000000 in
set_option maxRecDepth 100000 in
theorem T7 (r:RowT) (hr:r.1.length<=1048576):cL prog 7 [.agg (rowC r)] S tk k=some (.agg (predC (D6 r)),S,tk,k):=by
 have hC S tk k:=K2 S tk k r.1 r.2.1 hr
 simp only [linA,Ad] at hC
 rw [Ag]
 refine opP func7 ntmps7 (hp3:=rfl) ?_
 have hT:D6 r=D6 r:=rfl
 conv at hT=>lhs; unfold D6
 generalize D6 r=T at *
 by_cases h0:B0 r.1 r.2.1=0
 ·obtain ⟨hb,hn,rm⟩:=Ve h0
  have c1:(B0 r.1 r.2.1 != 0)=false:=by simp [h0]
  rw [if_pos h0] at hT
  simp (maxSteps:=10^6)+contextual(disch:=try exact dqd)only[ev1,simprocAttr,AV.int,AV.bool,AV.str,results7,rowC,Ad,hC,c1]
  clear hC c1 h0
  refine loop1 (P:=prog) (fun x st=>st.T.length=74/\(x.1<=r.1.length)/\(Aq st.tk x.2.1 4=true)/\(Aq st.tk x.2.2 4=true)/\(Kw x.2.1 x.2.2)/\getT st.T 1=.ref 0 0 0/\getT st.T 2=.ref 1 1 0/\getT st.T 3=.frz ((sideF 1 (r.1.take x.1)).map predC) x.2.1/\getT st.T 4=.frz ((sideF (-1) (r.1.take x.1)).map predC) x.2.2/\getT st.T 15=Ad r.1/\getT st.T 16=.int (r.1.length:Nat)/\getT st.T 17=.int (x.1:Nat)/\st.S=[⟨0,[.frz (r.1.map Bn) .unk,.prim (.int .i64 r.2.1),.prim (.bool r.2.2)]⟩,⟨1,[.int 0,.str bE,.int 0,.frz [] .nilc]⟩]) (fun x=>r.1.length - x.1) (fun x=>.agg [.prim (.int .i64 T.op),.prim (.string T.name),.prim (.int .i64 T.n),.frz (Bj T.kids) .unk]) (0,.nilc,.nilc) ?_ ?_
  case refine_2=>exact ⟨rfl,Nat.zero_le _,rfl,rfl,Yp,rfl,rfl,rfl,rfl,rfl,rfl,rfl,rfl⟩
  rintro ⟨i,cl,cr⟩ ⟨T,S',tk',n'⟩ ⟨hl,hi,ik,gj,ci,e1,e2,e3,e4,e15,e16,e17,eS⟩ IH
  simp only at hi ik gj ci e1 e2 e3 e4 e15 e16 e17 eS
  subst eS
  obtain ⟨g,hg,hT⟩:=A4 hl
  rw [hg] at e1 e2 e3 e4 e15 e16 e17
  subst hT
  clear hg hl
  have eh:=A0 (i:=i) (by omega)
  have hl1:=Ka (g:=1) (cs:=r.1.take i)
  have hl2:=Ka (g:=-1) (cs:=r.1.take i)
  rw [List.length_take] at hl1 hl2
  have ap:=E9 (f:=predC) (sz:=4) J4 (sideF 1 (r.1.take i))
  have c8:=E9 (f:=predC) (sz:=4) J4 (sideF (-1) (r.1.take i))
  have bv:((sideF 1 (r.1.take i)).map predC).length+1<=1048576:=by rw [List.length_map]; omega
  have hn2:((sideF (-1) (r.1.take i)).map predC).length+1<=1048576:=by rw [List.length_map]; omega
  by_cases la:i<r.1.length
  ·have d1:decide ((i:Int)<(r.1.length:Int))=true:=by simpa using la
   obtain ⟨c,hx⟩:=Af la
   have hx':nth (r.1.map Bn) i=some (Bn c):=by rw [Bl,hx]; rfl
   have hcm:c ∈ r.1:=by rw [Ab] at hx; exact List.mem_of_getElem? hx
   obtain ⟨aq,hc2⟩:=hb c hcm
   rw [Dy] at aq
   have ma:=Pd hx
   simp only [Bn] at hx'
   by_cases hp:0<c.2
   ·have d2:decide (c.2 > 0)=true:=by simpa using hp
    have li S tk k:=L4 S tk k c.2 c.1
    have q1:sideF 1 (r.1.take (i+1))=sideF 1 (r.1.take i)++[J1 c.2 c.1]:=by rw [ma,Gb,if_pos (by omega),Int.mul_one]
    have q2:sideF (-1) (r.1.take (i+1))=sideF (-1) (r.1.take i):=by rw [ma,Gb,if_neg (by omega),List.append_nil]
    have k1:=Jz ik
    have k2:=Kt gj ci
    have k3:=Ky (sz:=4) gj ci
    rw [Ag] at li
    simp (maxSteps:=10^6)+contextual(disch:=try exact dqd)only[ev1,simprocAttr,AV.int,AV.bool,AV.str,results7,e1,e2,e3,e4,e15,e16,e17,d1,d2,Ad,hx',li,eh,ap]
    refine IH (i+1,Ed tk' cl 4,cr) _ (by simp only; omega) ⟨rfl,by simp only; omega,k1,k2,k3,rfl,rfl,?_,?_,rfl,rfl,rfl,rfl⟩
    ·simp only [getT,q1,List.map_append,List.map_cons,List.map_nil,Ag]
    ·simp only [getT,q2]
   ·have d2:decide (c.2 > 0)=false:=by simpa using hp
    have hw:IntKind.i64.wrap (0 - c.2)=-c.2:=by rw [Ay (by unfold i64; omega)]; omega
    have li S tk k:=L4 S tk k (-c.2) c.1
    have q1:sideF 1 (r.1.take (i+1))=sideF 1 (r.1.take i):=by rw [ma,Gb,if_neg (by omega),List.append_nil]
    have q2:sideF (-1) (r.1.take (i+1))=sideF (-1) (r.1.take i)++[J1 (-c.2) c.1]:=by rw [ma,Gb,if_pos (by omega),show c.2*-1=-c.2 by omega]
    have k1:=Jz gj
    have k2:=Kt ik ci.symm
    have k3:=(Ky (sz:=4) ik ci.symm).symm
    rw [Ag] at li
    simp (maxSteps:=10^6)+contextual(disch:=try exact dqd)only[ev1,simprocAttr,AV.int,AV.bool,AV.str,results7,e1,e2,e3,e4,e15,e16,e17,d1,d2,Ad,hx',hw,li,eh,c8]
    refine IH (i+1,cl,Ed tk' cr 4) _ (by simp only; omega) ⟨rfl,by simp only; omega,k2,k1,k3,rfl,rfl,?_,?_,rfl,rfl,rfl,rfl⟩
    ·simp only [getT,q1]
    ·simp only [getT,q2,List.map_append,List.map_cons,List.map_nil,Ag]
  ·have d1:decide ((i:Int)<(r.1.length:Int))=false:=by simpa using la
   have c7:i=r.1.length:=by omega
   subst c7
   rw [List.take_length] at e3 e4 ap c8 bv hn2 hl1 hl2
   clear IH
   rw [Dy] at hn
   have hw:IntKind.i64.wrap (0 - r.2.1)=-r.2.1:=by rw [Ay (by unfold i64; omega)]; omega
   have hL1 c S tk k:=(Aao S tk k (c:=c)).trans (Jg S tk k (sidesF 1 r.1 r.2.1) (by have:=Hu (g:=1) (n:=r.2.1) (cs:=r.1); omega))
   have il c S tk k:=(Aao S tk k (c:=c)).trans (Jg S tk k (sidesF (-1) r.1 r.2.1) (by have:=Hu (g:=-1) (n:=r.2.1) (cs:=r.1); omega))
   have k2:=Kt gj ci
   subst hT
   simp only [PT.op,PT.name,PT.n,PT.kids,Bj]
   generalize hA:sumL (sidesF 1 r.1 r.2.1)=A at *
   generalize hB:sumL (sidesF (-1) r.1 r.2.1)=B at *
   unfold sidesF at hL1 il
   rw [Ag A,Ag B]
   simp only [Ag A,Ag B] at hL1 il
   rcases Int.lt_trichotomy r.2.1 0 with hz|hz|hz
   ·have d2:decide (r.2.1 > 0)=false:=by simp; omega
    have d3:decide (r.2.1<0)=true:=by simpa using hz
    have f1:conF 1 r.2.1=[]:=by unfold conF; rw [if_neg (by omega)]
    have f2:conF (-1) r.2.1=[.node 1 bE (-r.2.1) []]:=by unfold conF; rw [if_pos (by omega),show r.2.1*-1=-r.2.1 by omega]
    rw [f1,List.append_nil] at hL1
    rw [f2,List.map_append] at il
    simp only [List.map_cons,List.map_nil,predC,Bj,bE] at il
    cases he:r.2.2 <;>
    simp (maxSteps:=10^6)+contextual(disch:=try exact dqd)only[ev1,simprocAttr,AV.int,AV.bool,AV.str,results7,e1,e2,e3,e4,e15,e16,e17,d1,d2,d3,he,hw,c8,hL1,il,bE,if_true,if_false,Bool.false_eq_true]
   ·have d2:decide (r.2.1 > 0)=false:=by simp; omega
    have d3:decide (r.2.1<0)=false:=by simp; omega
    have f1:conF 1 r.2.1=[]:=by unfold conF; rw [if_neg (by omega)]
    have f2:conF (-1) r.2.1=[]:=by unfold conF; rw [if_neg (by omega)]
    rw [f1,List.append_nil] at hL1
    rw [f2,List.append_nil] at il
    cases he:r.2.2 <;>
    simp (maxSteps:=10^6)+contextual(disch:=try exact dqd)only[ev1,simprocAttr,AV.int,AV.bool,AV.str,results7,e1,e2,e3,e4,e15,e16,e17,d1,d2,d3,he,hL1,il,bE,if_true,if_false,Bool.false_eq_true]
   ·have d2:decide (r.2.1 > 0)=true:=by simpa using hz
    have d3:decide (r.2.1<0)=false:=by simp; omega
    have f1:conF 1 r.2.1=[.node 1 bE r.2.1 []]:=by unfold conF; rw [if_pos (by omega),Int.mul_one]
    have f2:conF (-1) r.2.1=[]:=by unfold conF; rw [if_neg (by omega)]
    rw [f1,List.map_append] at hL1
    rw [f2,List.append_nil] at il
    simp only [List.map_cons,List.map_nil,predC,Bj,bE] at hL1
    cases he:r.2.2 <;>
    simp (maxSteps:=10^6)+contextual(disch:=try exact dqd)only[ev1,simprocAttr,AV.int,AV.bool,AV.str,results7,e1,e2,e3,e4,e15,e16,e17,d1,d2,d3,he,ap,hL1,il,bE,if_true,if_false,Bool.false_eq_true]
 ·have c1:(B0 r.1 r.2.1 != 0)=true:=by simpa using h0
  rw [if_neg h0] at hT
  have hL c S tk k:=(Aao S tk k (c:=c)).trans (Jg S tk k [] (by simp))
  simp only [List.map_nil,sumL,predC,Bj,bE] at hL
  subst hT
  simp only [PT.op,PT.name,PT.n,PT.kids,Bj,predC,bE]
  simp (maxSteps:=10^6)+contextual(disch:=try exact dqd)only[ev1,simprocAttr,AV.int,AV.bool,AV.str,results7,rowC,Ad,hC,c1]
  clear hC c1 h0
  refine loop1 (P:=prog) (fun x st=>st.T.length=74/\(x=0)/\getT st.T 1=.ref 0 0 0/\getT st.T 2=.ref 1 1 0/\getT st.T 3=.frz [] .nilc/\getT st.T 4=.frz [] .nilc/\getT st.T 15=.frz [] .nilc/\getT st.T 16=.int (([]:List (List AV)).length:Nat)/\getT st.T 17=.int (x:Nat)/\st.S=[⟨0,[.frz [] .nilc,.int 0,.bool false]⟩,⟨1,[.int 0,.str bE,.int 0,.frz [] .nilc]⟩]) (fun x=>0 - x) (fun x=>.agg [.int 13,.str ⟨#[]⟩,.int 0,.frz [[.prim (.int .i64 1),.prim (.string ⟨#[]⟩),.prim (.int .i64 0),.frz [] .unk],[.prim (.int .i64 1),.prim (.string ⟨#[]⟩),.prim (.int .i64 0),.frz [] .unk]] .unk]) (0) ?_ ?_
  case refine_2=>exact ⟨rfl,rfl,rfl,rfl,rfl,rfl,rfl,rfl,rfl,rfl⟩
  rintro i ⟨T,S',tk',n'⟩ ⟨hl,hi,e1,e2,e3,e4,e15,e16,e17,eS⟩ IH
  subst eS
  obtain ⟨g,hg,hT⟩:=A4 hl
  rw [hg] at e1 e2 e3 e4 e15 e16 e17
  subst hT
  clear hg hl
  subst hi
  have d1:decide (((0:Nat):Int)<((([]:List (List AV)).length:Nat):Int))=false:=rfl
  have d2:decide ((0:Int) > 0)=false:=rfl
  have d3:decide ((0:Int)<0)=false:=rfl
  simp (maxSteps:=10^6)+contextual(disch:=try exact dqd)only[ev1,simprocAttr,AV.int,AV.bool,AV.str,results7,e1,e2,e3,e4,e15,e16,e17,d1,d2,d3,hL,bE]
end
def nX:ByteArray:=⟨#[120]⟩
def nY:ByteArray:=⟨#[121]⟩
def lA:List RowT:=[([(nX,1),(nY,-1)],0,false),([(nX,-1)],1,false)]
def lB:List RowT:=[([(nY,1)],0,false)]
def rIt:RowT:=([(nY,-1)],1,false)
def kzB (n:Int):List AV:=[.prim (.bool (decide (n<0))),if n=0 then .frz [] .unk else .frz [[AV.int n.natAbs]] .unk]
def kzA (l:List Int):AV:=.frz (l.map kzB) .unk
def kqA (n:Int):AV:=.agg (kzB n++kzB 1)
def kq2 (x y z:Int):List AV × AV:=([kqA x,kqA y],kqA z)
def kq1 (x y:Int):List AV × AV:=([kqA x],.int y)
abbrev TabL:=List (Nat × List (List AV × AV))
def tblR:TabL:=[(159,[kq2 (-2) (-2) 0,kq2 (-2) 0 (-2),kq2 (-1) (-2) 1,kq2 (-1) (-1) 0,kq2 (-1) 0 (-1),kq2 (-1) 1 (-2),kq2 0 (-2) 2,kq2 0 (-1) 1,kq2 0 0 0,kq2 0 1 (-1),kq2 0 2 (-2),kq2 1 (-1) 2,kq2 1 0 1,kq2 1 1 0,kq2 2 0 2,kq2 2 2 0]),
 (161,[kq1 (-2) (-1),kq1 (-1) (-1),kq1 0 0,kq1 1 1,kq1 2 1]),(216,[kq2 (-1) 1 (-1),kq2 0 1 0,kq2 1 1 1]),
 (231,[kq2 (-2) (-1) 2,kq2 (-2) 0 0,kq2 (-2) 1 (-2),kq2 (-1) (-1) 1,kq2 (-1) 0 0,kq2 (-1) 1 (-1),kq2 1 (-1) (-1),kq2 1 0 0,kq2 1 1 1]),
 (215,[([kqA 0,kqA 1],.int (-1)),([kqA 1,kqA 0],.int 1)]),(158,[([.int 0],kqA 0),([.int 1],kqA 1),([.int (-1)],kqA (-1))])]
theorem Afc:Tab prog (tbT (tblR++[])):=My K4 K4 (by kernel_rfl)
def rI (b:Bool):AV:=.tup [.bool b,.int 0]
end
end Go.Proofs.YthelkgdmgihhiaaGreatDoor
