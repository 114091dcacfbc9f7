/- Part 27. -/
import Derived.Test.YthelkgdmgihhiaaGreatDoorZK26
namespace Go.Proofs.YthelkgdmgihhiaaGreatDoor
section
open Go Tryz
def M9 (o:Int):Int × Int:=if o=1\/o=2\/o=3 then (0,0) else if o=4\/o=5 then (1,24) else if o=9\/o=14 then (1,1) else (2,2)
section
variable (S:List Ent) (tk:List Nat) (k:Nat)
theorem Di (o:Int):cL prog 130 [.int o] S tk k=some (.bool (Bz o),S,tk,k):=by
 refine opP func130 ntmps130 ?_
 simp (maxSteps:=10^6)+contextual(disch:=try exact dqd)only[ev2,simprocAttr,AV.int,AV.bool,AV.str,results130]
 unfold Bz
 refine ⟨fun h=>?_,fun h=>⟨fun h1=>?_,fun h1=>?_⟩⟩ <;> simp_all [Bool.beq_eq_decide_eq]
theorem D3 (o:Int):cL prog 129 [.int o] S tk k=some (.tup [.int (M9 o).1,.int (M9 o).2],S,tk,k):=by
 refine opP func129 ntmps129 ?_
 simp (maxSteps:=10^6)+contextual(disch:=try exact dqd)only[ev2,simprocAttr,AV.int,AV.bool,AV.str,results129]
 simp only [beq_iff_eq,beq_eq_false_iff_ne,ne_eq]
 by_cases h1:o=1
 ·subst h1; simp [M9]
 by_cases h2:o=2
 ·subst h2; simp [M9]
 by_cases h3:o=3
 ·subst h3; simp [M9]
 by_cases h4:o=4
 ·subst h4; simp [M9]
 by_cases h5:o=5
 ·subst h5; simp [M9]
 by_cases h9:o=9
 ·subst h9; simp [M9]
 by_cases lh:o=14
 ·subst lh; simp [M9]
 simp [M9,h1,h2,h3,h4,h5,h9,lh]
set_option maxRecDepth 100000 in
set_option maxHeartbeats 4000000 in
theorem Z9 (o:Int) (s:ByteArray) (n:Int) (ks:List PT):cL prog 87 [.agg (predC (.node o s n ks))] S tk k=some (.int (Bk (.node o s n ks)),S,tk,k):=by
 refine opP func87 ntmps87 ?_
 have c3 S tk k:=Xd S tk k s
 have c4 S tk k:=Ae2 S tk k n
 by_cases cp:o<1
 ·have d1:decide (o<1)=true:=by simpa using cp
  simp (maxSteps:=10^6)+contextual(disch:=try exact dqd)only[ev2,simprocAttr,AV.int,AV.bool,AV.str,results87,predC,Ac,d1]
  simp only [Bk]; rw [if_pos (Or.inl cp)]
 by_cases ll:18<o
 ·have d1:decide (o<1)=false:=by simpa using cp
  have d2:decide (o > 18)=true:=by simpa using ll
  simp (maxSteps:=10^6)+contextual(disch:=try exact dqd)only[ev2,simprocAttr,AV.int,AV.bool,AV.str,results87,predC,Ac,d1,d2]
  simp only [Bk]; rw [if_pos (Or.inr (Or.inl ll))]
 have gi:o=1\/o=2\/o=3\/o=4\/o=5\/o=8\/(o=9\/o=14)\/(o=6\/o=7\/o=10\/o=11\/o=12\/o=13\/o=15\/o=16\/o=17\/o=18):=by omega
 have f1:decide (o<1)=false:=by simpa using cp
 have f2:decide (o > 18)=false:=by simpa using ll
 rcases gi with h|h|h|h|h|h|h|h
 ·have c1:∀ S tk k,cL prog 129 [.int o] S tk k=some (.tup [.int 0,.int 0],S,tk,k):=fun S tk k=>by
   rw [D3 S tk k o]
   rcases h with rfl <;> rfl
  have c2:∀ S tk k,cL prog 130 [.int o] S tk k=some (.bool false,S,tk,k):=fun S tk k=>by
   rw [Di S tk k o]
   rcases h with rfl <;> rfl
  have g1:(o == 1)=true:=by simp; omega
  have g2:(o == 2)=false:=by simp; omega
  have g3:(o == 3)=false:=by simp; omega
  have g4:(o == 4)=false:=by simp; omega
  have g8:(o == 8)=false:=by simp; omega
  have q1:(o != 1)=false:=by simp; omega
  have q2:(o != 2)=true:=by simp; omega
  simp (maxSteps:=10^6)+contextual(disch:=try exact dqd)only[ev2,simprocAttr,AV.int,AV.bool,AV.str,results87,predC,Ac,f1,f2,g1,g2,g3,g4,g8,q1,q2,c1,c2,c4]
  clear c1 c2 c4
  simp only [Bk,Bz,Dt,B8,bV,bTag,bVal,Da]
  grind
 ·have c1:∀ S tk k,cL prog 129 [.int o] S tk k=some (.tup [.int 0,.int 0],S,tk,k):=fun S tk k=>by
   rw [D3 S tk k o]
   rcases h with rfl <;> rfl
  have c2:∀ S tk k,cL prog 130 [.int o] S tk k=some (.bool false,S,tk,k):=fun S tk k=>by
   rw [Di S tk k o]
   rcases h with rfl <;> rfl
  have g1:(o == 1)=false:=by simp; omega
  have g2:(o == 2)=true:=by simp; omega
  have g3:(o == 3)=false:=by simp; omega
  have g4:(o == 4)=false:=by simp; omega
  have g8:(o == 8)=false:=by simp; omega
  have q1:(o != 1)=true:=by simp; omega
  have q2:(o != 2)=false:=by simp; omega
  simp (maxSteps:=10^6)+contextual(disch:=try exact dqd)only[ev2,simprocAttr,AV.int,AV.bool,AV.str,results87,predC,Ac,f1,f2,g1,g2,g3,g4,g8,q1,q2,c1,c2,c4]
  clear c1 c2 c4
  simp only [Bk,Bz,Dt,B8,bV,bTag,bVal,Da]
  grind
 ·have c1:∀ S tk k,cL prog 129 [.int o] S tk k=some (.tup [.int 0,.int 0],S,tk,k):=fun S tk k=>by
   rw [D3 S tk k o]
   rcases h with rfl <;> rfl
  have c2:∀ S tk k,cL prog 130 [.int o] S tk k=some (.bool true,S,tk,k):=fun S tk k=>by
   rw [Di S tk k o]
   rcases h with rfl <;> rfl
  have g1:(o == 1)=false:=by simp; omega
  have g2:(o == 2)=false:=by simp; omega
  have g3:(o == 3)=true:=by simp; omega
  have g4:(o == 4)=false:=by simp; omega
  have g8:(o == 8)=false:=by simp; omega
  have q1:(o != 1)=true:=by simp; omega
  have q2:(o != 2)=true:=by simp; omega
  cases hc:Ha s <;> rw [hc] at c3 <;> simp only [if_true,if_false,Bool.false_eq_true] at c3
  all_goals
   simp (maxSteps:=10^6)+contextual(disch:=try exact dqd)only[ev2,simprocAttr,AV.int,AV.bool,AV.str,results87,predC,Ac,f1,f2,g1,g2,g3,g4,g8,q1,q2,c1,c2,c4,c3]
   clear c1 c2 c4
   simp only [Bk,Bz,Dt,B8,bV,bTag,bVal,Da]
   grind
 ·have c1:∀ S tk k,cL prog 129 [.int o] S tk k=some (.tup [.int 1,.int 24],S,tk,k):=fun S tk k=>by
   rw [D3 S tk k o]
   rcases h with rfl <;> rfl
  have c2:∀ S tk k,cL prog 130 [.int o] S tk k=some (.bool true,S,tk,k):=fun S tk k=>by
   rw [Di S tk k o]
   rcases h with rfl <;> rfl
  have g1:(o == 1)=false:=by simp; omega
  have g2:(o == 2)=false:=by simp; omega
  have g3:(o == 3)=false:=by simp; omega
  have g4:(o == 4)=true:=by simp; omega
  have g8:(o == 8)=false:=by simp; omega
  have q1:(o != 1)=true:=by simp; omega
  have q2:(o != 2)=true:=by simp; omega
  cases hc:Ha s <;> rw [hc] at c3 <;> simp only [if_true,if_false,Bool.false_eq_true] at c3
  all_goals
   simp (maxSteps:=10^6)+contextual(disch:=try exact dqd)only[ev2,simprocAttr,AV.int,AV.bool,AV.str,results87,predC,Ac,f1,f2,g1,g2,g3,g4,g8,q1,q2,c1,c2,c4,c3]
   clear c1 c2 c4
   simp only [Bk,Bz,Dt,B8,bV,bTag,bVal,Da]
   grind
 ·have c1:∀ S tk k,cL prog 129 [.int o] S tk k=some (.tup [.int 1,.int 24],S,tk,k):=fun S tk k=>by
   rw [D3 S tk k o]
   rcases h with rfl <;> rfl
  have c2:∀ S tk k,cL prog 130 [.int o] S tk k=some (.bool true,S,tk,k):=fun S tk k=>by
   rw [Di S tk k o]
   rcases h with rfl <;> rfl
  have g1:(o == 1)=false:=by simp; omega
  have g2:(o == 2)=false:=by simp; omega
  have g3:(o == 3)=false:=by simp; omega
  have g4:(o == 4)=false:=by simp; omega
  have g8:(o == 8)=false:=by simp; omega
  have q1:(o != 1)=true:=by simp; omega
  have q2:(o != 2)=true:=by simp; omega
  cases hc:Ha s <;> rw [hc] at c3 <;> simp only [if_true,if_false,Bool.false_eq_true] at c3
  all_goals
   simp (maxSteps:=10^6)+contextual(disch:=try exact dqd)only[ev2,simprocAttr,AV.int,AV.bool,AV.str,results87,predC,Ac,f1,f2,g1,g2,g3,g4,g8,q1,q2,c1,c2,c4,c3]
   clear c1 c2 c4
   simp only [Bk,Bz,Dt,B8,bV,bTag,bVal,Da]
   grind
 ·have c1:∀ S tk k,cL prog 129 [.int o] S tk k=some (.tup [.int 2,.int 2],S,tk,k):=fun S tk k=>by
   rw [D3 S tk k o]
   rcases h with rfl <;> rfl
  have c2:∀ S tk k,cL prog 130 [.int o] S tk k=some (.bool false,S,tk,k):=fun S tk k=>by
   rw [Di S tk k o]
   rcases h with rfl <;> rfl
  have g1:(o == 1)=false:=by simp; omega
  have g2:(o == 2)=false:=by simp; omega
  have g3:(o == 3)=false:=by simp; omega
  have g4:(o == 4)=false:=by simp; omega
  have g8:(o == 8)=true:=by simp; omega
  have q1:(o != 1)=true:=by simp; omega
  have q2:(o != 2)=true:=by simp; omega
  by_cases iz:ks.length=2
  ·obtain ⟨x,hx⟩:=Af (show 0<ks.length by omega)
   obtain ⟨r,hr⟩:∃ r,ks=x :: r:=⟨_,by simpa using Al hx⟩
   have hx':=Es hx
   rw [Ag] at hx'
   simp (maxSteps:=10^6)+contextual(disch:=try exact dqd)only[ev2,simprocAttr,AV.int,AV.bool,AV.str,results87,predC,Ac,f1,f2,g1,g2,g3,g4,g8,q1,q2,c1,c2,c4,hx']
   clear c1 c2 c4
   simp only [Bk,Bz,Dt,B8,bV,bTag,bVal,Da]
   grind
  ·have rn:decide ((ks.length:Int)<2)=false->decide ((ks.length:Int) > 2)=true:=by simp; omega
   simp (maxSteps:=10^6)+contextual(disch:=try exact dqd)only[ev2,simprocAttr,AV.int,AV.bool,AV.str,results87,predC,Ac,f1,f2,g1,g2,g3,g4,g8,q1,q2,c1,c2,c4,rn]
   clear c1 c2 c4
   simp only [Bk,Bz,Dt,B8,bV,bTag,bVal,Da]
   grind
 ·have c1:∀ S tk k,cL prog 129 [.int o] S tk k=some (.tup [.int 1,.int 1],S,tk,k):=fun S tk k=>by
   rw [D3 S tk k o]
   rcases h with rfl|rfl <;> rfl
  have c2:∀ S tk k,cL prog 130 [.int o] S tk k=some (.bool false,S,tk,k):=fun S tk k=>by
   rw [Di S tk k o]
   rcases h with rfl|rfl <;> rfl
  have g1:(o == 1)=false:=by simp; omega
  have g2:(o == 2)=false:=by simp; omega
  have g3:(o == 3)=false:=by simp; omega
  have g4:(o == 4)=false:=by simp; omega
  have g8:(o == 8)=false:=by simp; omega
  have q1:(o != 1)=true:=by simp; omega
  have q2:(o != 2)=true:=by simp; omega
  simp (maxSteps:=10^6)+contextual(disch:=try exact dqd)only[ev2,simprocAttr,AV.int,AV.bool,AV.str,results87,predC,Ac,f1,f2,g1,g2,g3,g4,g8,q1,q2,c1,c2,c4]
  clear c1 c2 c4
  simp only [Bk,Bz,Dt,B8,bV,bTag,bVal,Da]
  grind
 ·have c1:∀ S tk k,cL prog 129 [.int o] S tk k=some (.tup [.int 2,.int 2],S,tk,k):=fun S tk k=>by
   rw [D3 S tk k o]
   rcases h with rfl|rfl|rfl|rfl|rfl|rfl|rfl|rfl|rfl|rfl <;> rfl
  have c2:∀ S tk k,cL prog 130 [.int o] S tk k=some (.bool false,S,tk,k):=fun S tk k=>by
   rw [Di S tk k o]
   rcases h with rfl|rfl|rfl|rfl|rfl|rfl|rfl|rfl|rfl|rfl <;> rfl
  have g1:(o == 1)=false:=by simp; omega
  have g2:(o == 2)=false:=by simp; omega
  have g3:(o == 3)=false:=by simp; omega
  have g4:(o == 4)=false:=by simp; omega
  have g8:(o == 8)=false:=by simp; omega
  have q1:(o != 1)=true:=by simp; omega
  have q2:(o != 2)=true:=by simp; omega
  simp (maxSteps:=10^6)+contextual(disch:=try exact dqd)only[ev2,simprocAttr,AV.int,AV.bool,AV.str,results87,predC,Ac,f1,f2,g1,g2,g3,g4,g8,q1,q2,c1,c2,c4]
  clear c1 c2 c3 c4
  have hn:o≠1/\o≠2/\o≠3/\o≠4/\o≠5/\o≠8/\o≠9/\o≠14:=by omega
  obtain ⟨n1,n2,n3,n4,n5,n8,n9,n14⟩:=hn
  clear h f1 f2 g1 g2 g3 g4 g8 q1 q2
  simp only [Bk,Bz,Dt,B8,bV,bTag,bVal,Da,n1,n2,n3,n4,n5,n8,n9,n14,cp,ll,or_self,if_false,decide_false,Bool.or_false,false_and,ne_eq,not_false_eq_true,true_and,false_or,or_false]
  clear n1 n2 n3 n4 n5 n8 n9 n14 cp ll
  grind
end
end
end Go.Proofs.YthelkgdmgihhiaaGreatDoor
