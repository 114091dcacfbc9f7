/- Part 22. -/
import Derived.Test.YthelkgdmgihhiaaGreatDoorZK21
namespace Go.Proofs.YthelkgdmgihhiaaGreatDoor
section
open Go Tryz
theorem X0 (S:List Ent) (tk:List Nat) (k:Nat):cL prog 6 [] S tk k=some (.bool true,S,tk,k) :=
 cL_T (Agr (Ags (Agt (Agu (Agv (Agw K4)))))) rfl (by kernel_rfl) S tk k
end
section
open Go
mutual
theorem Me:∀ (p:PT),nodesP p<=1000000->Bu p=(nodesP p:Int)
 | .node o s n ks,h=>by
  rw [nodesP] at h
  rw [Bu,nodesP,show (1:Int)=((1:Nat):Int) from rfl]
  exact R3 ks 1 h
theorem R3:∀ (ks:List PT) (n:Nat),n+nodesL ks<=1000000->E5 (n:Int) ks=((n+nodesL ks:Nat):Int)
 | [],n,_=>by rw [E5,nodesL,Nat.add_zero]
 | k :: ks,n,h=>by
  rw [nodesL] at h
  rw [E5,nodesL,Me k (by omega),Ay (by unfold i64; omega)]
  have:=R3 ks (n+nodesP k) (by omega)
  rw [show (n:Int)+(nodesP k:Int)=((n+nodesP k:Nat):Int) by omega,this,Nat.add_assoc]
end
mutual
theorem Lv:∀ (p:PT),nodesP p<=1000000->Bg p=(depthP p:Int)
 | .node o s n ks,h=>by
  rw [nodesP] at h
  have hd:=Hb ks
  rw [Bg,depthP,show (0:Int)=((0:Nat):Int) from rfl,Lt ks 0 (by omega),Ay (by unfold i64; omega),Nat.zero_max]
  omega
theorem Lt:∀ (ks:List PT) (n:Nat),nodesL ks<=1000000->E4 (n:Int) ks=((max n (E2 ks):Nat):Int)
 | [],n,_=>by rw [E4,E2,Nat.max_zero]
 | k :: ks,n,h=>by
  rw [nodesL] at h
  rw [E4,E2,Lv k (by omega)]
  by_cases c:(depthP k:Int) > (n:Int)
  ·rw [if_pos c,Lt ks _ (by omega)]; congr 1; omega
  ·rw [if_neg c,Lt ks _ (by omega)]; congr 1; omega
end
theorem R4:∀ (r:List PT) (x:PT),nodesP (sumT x r)=nodesP x+nodesL r+r.length
 | [],x=>by simp [sumT,nodesL]
 | y :: r,x=>by
  rw [sumT,R4 r]
  simp only [nodesP,nodesL,List.length_cons]
  omega
theorem Rb:∀ (r:List PT) (x:PT) (d:Nat),depthP x<=d->2<=d->(∀ y ∈ r,depthP y<=2)->depthP (sumT x r)<=d+r.length
 | [],x,d,h,_,_=>by simpa [sumT] using h
 | y :: r,x,d,h,hd,hr=>by
  have hy:=hr y (List.mem_cons_self ..)
  have:=Rb r (.node 6 bE 0 [x,y]) (d+1) (by simp only [depthP,E2]; omega) (by omega) fun z hz=>hr z (List.mem_cons_of_mem _ hz)
  rw [sumT,List.length_cons]
  omega
structure Kv (p:PT):Prop where
 nodes:nodesP p<=3
 depth:depthP p<=2
 form:Ba p=0
theorem Acu (x y:PT):Bk (.node 6 bE 0 [x,y])=0:=by
 have h:bE.size=0:=rfl
 simp [Bk,Bz,Dt,B8,h]
theorem Vn:∀ (r:List PT) (x:PT),Ba x=0->(∀ y ∈ r,Kv y)->Ba (sumT x r)=0
 | [],x,h,_=>h
 | y :: r,x,h,hr=>by
  rw [sumT]
  refine Vn r _ ?_ fun z hz=>hr z (List.mem_cons_of_mem _ hz)
  rw [Ba,if_neg (by rw [Acu]; simp),Dm,if_neg (by rw [h]; simp),Dm,if_neg (by rw [(hr y (List.mem_cons_self ..)).form]; simp),Dm]
theorem Qc {n:Int} (hn:inB n=true):Kv (.node 1 bE n []):=by
 have h:bE.size=0:=rfl
 refine ⟨by simp [nodesP,nodesL],by simp [depthP,E2],?_⟩
 have:Bk (.node 1 bE n [])=0:=by simp [Bk,Bz,Dt,B8,h,hn]
 rw [Ba,this]; simp [Dm]
theorem Acy {n:Int} {s:ByteArray} (hn:inB n=true) (hs:Ba (.node 3 s 0 [])=0):Kv (J1 n s):=by
 unfold J1
 split
 ·exact ⟨by simp [nodesP,nodesL],by simp [depthP,E2],hs⟩
 ·have h:bE.size=0:=rfl
  refine ⟨by simp [nodesP,nodesL],by simp [depthP,E2],?_⟩
  have h1:Bk (.node 8 bE 0 [.node 1 bE n [],.node 3 s 0 []])=0:=by simp [Bk,Bz,Dt,B8,h,PT.op]
  rw [Ba,h1,Dm,(Qc hn).form,Dm,hs]; simp [Dm]
theorem Mf:∀ {l:List PT},(∀ y ∈ l,Kv y)->nodesL l<=3*l.length
 | [],_=>by simp [nodesL]
 | x :: l,h=>by
  have h1:=(h x (List.mem_cons_self ..)).nodes
  have h2:=Mf fun y hy=>h y (List.mem_cons_of_mem _ hy)
  rw [nodesL,List.length_cons]; omega
theorem Adu {l:List PT} (h:∀ y ∈ l,Kv y) (hl:l.length<=7):nodesP (sumL l)<=28/\depthP (sumL l)<=9/\Ba (sumL l)=0:=by
 cases l with
 | nil =>
  have:=Qc (n:=0) rfl
  exact ⟨by have:=this.nodes; simp only [sumL]; omega,by have:=this.depth; simp only [sumL]; omega,this.form⟩
 | cons x r =>
  have hx:=h x (List.mem_cons_self ..)
  have hr:∀ y ∈ r,Kv y:=fun y hy=>h y (List.mem_cons_of_mem _ hy)
  have hn:=Mf hr
  rw [List.length_cons] at hl
  have hd:=Rb r x 2 hx.depth (by omega) fun y hy=>(hr y hy).depth
  have hm:=hx.nodes
  refine ⟨by rw [sumL,R4]; omega,by rw [sumL]; omega,by rw [sumL]; exact Vn r x hx.form hr⟩
theorem Ac6 {s:ByteArray} (h:Bc (.node 3 s 0 [])=0):Ba (.node 3 s 0 [])=0:=by
 unfold Bc at h
 rw [Me _ (by simp [nodesP,nodesL]),Lv _ (by simp [nodesP,nodesL])] at h
 simpa [nodesP,nodesL,depthP,E2] using h
theorem N5 {g:Int} (hg:g=1\/g=-1):∀ {cs:List (ByteArray × Int)},(∀ c ∈ cs,inB c.2=true/\Ba (.node 3 c.1 0 [])=0)->∀ y ∈ sideF g cs,Kv y
 | [],_,y,h=>by cases h
 | c :: cs,hc,y,h=>by
  have ih:=N5 hg (cs:=cs) fun c h=>hc c (List.mem_cons_of_mem _ h)
  have h0:=hc c (List.mem_cons_self ..)
  rw [sideF] at h
  split at h
  ·rcases List.mem_cons.1 h with rfl|h
   ·refine Acy ?_ h0.2
    have:=Dy.1 h0.1
    rw [Dy]; rcases hg with rfl|rfl <;> omega
   ·exact ih y h
  ·exact ih y h
theorem Mk {g n:Int} {cs:List (ByteArray × Int)} (hg:g=1\/g=-1) (hn:inB n=true) (hc:∀ c ∈ cs,inB c.2=true/\Ba (.node 3 c.1 0 [])=0):∀ y ∈ sidesF g cs n,Kv y:=fun y h=>by
 unfold sidesF conF at h
 rcases List.mem_append.1 h with h|h
 ·exact N5 hg hc y h
 ·split at h
  ·rw [List.mem_singleton.1 h]
   refine Qc ?_
   have:=Dy.1 hn
   rw [Dy]; rcases hg with rfl|rfl <;> omega
  ·cases h
theorem Ty {r:RowT} (h0:B0 r.1 r.2.1=0) (hl:r.1.length<=6) (hp:Ek r.1=true):Bc (D6 r)=0:=by
 obtain ⟨hb,hn,-⟩:=Ve h0
 have hc:∀ c ∈ r.1,inB c.2=true/\Ba (.node 3 c.1 0 [])=0:=fun c h=>⟨(hb c h).1,by
  unfold Ek at hp
  rw [List.all_eq_true] at hp
  exact Ac6 (by simpa using hp c h)⟩
 have l1:(sidesF 1 r.1 r.2.1).length<=7:=Nat.le_trans Hu (by omega)
 have l2:(sidesF (-1) r.1 r.2.1).length<=7:=Nat.le_trans Hu (by omega)
 obtain ⟨a1,a2,a3⟩:=Adu (Mk (.inl rfl) hn hc) l1
 obtain ⟨b1,b2,b3⟩:=Adu (Mk (.inr rfl) hn hc) l2
 unfold D6
 rw [if_pos h0]
 generalize sumL (sidesF 1 r.1 r.2.1)=A at *
 generalize sumL (sidesF (-1) r.1 r.2.1)=B at *
 have key:∀ o:Int,o=10\/o=13->Bc (.node o bE 0 [A,B])=0:=fun o ho=>by
  have hN:nodesP (.node o bE 0 [A,B])<=57:=by simp only [nodesP,nodesL]; omega
  have hD:depthP (.node o bE 0 [A,B])<=10:=by simp only [depthP,E2]; omega
  unfold Bc
  rw [Me _ (by omega),Lv _ (by omega),if_neg (by omega),if_neg (by omega)]
  have h:bE.size=0:=rfl
  have h1:Bk (.node o bE 0 [A,B])=0:=by rcases ho with rfl|rfl <;> simp [Bk,Bz,Dt,B8,h]
  rw [Ba,h1,Dm,a3,Dm,b3]; simp [Dm]
 cases r.2.2 with
 | true=>exact key 10 (.inl rfl)
 | false=>exact key 13 (.inr rfl)
mutual
theorem L7:∀ {p:PT},G4 p->Ai p
 | .node o s n ks,h=>by
  rw [G4] at h
  rw [Ai]
  exact ⟨by omega,Ny h.2⟩
theorem Ny:∀ {ks:List PT},H6 ks->Bd ks
 | [],_=>by rw [Bd]; trivial
 | k :: ks,h=>by
  rw [H6] at h
  rw [Bd]
  exact ⟨L7 h.1,Ny h.2⟩
end
end
end Go.Proofs.YthelkgdmgihhiaaGreatDoor
