/- Part 27. -/
import Derived.Test.YthelkgdmgihhiaaGreatZM26
open And renaming intro->Bv
open Bool renaming or_eq_true->Fz
open Option renaming map_eq_some_iff->B6
open Option.some renaming injEq->A0
open Prod.mk renaming injEq->Cc
namespace Go.Proofs.YthelkgdmgihhiaaGreat
section
open Go Tryz Go.RowKit
def glZ:List (Nat × Array Value):=Globs.gl
def shZ:FuncId->Bool:=Globs.sh
def Pq (f:FuncId) (args:List AV) (r:AV):Prop:=∀ S tk k,cL prog f args S tk k=some (r,S,tk,k)
@[reducible] def Gz:Globs:=inferInstance
def SRz (C:Cx):Prop:=@SR Gz C
theorem Alw (G G':Globs) (e:@Globs.gl G'=@Globs.gl G) {C:Cx} (h:@SR G C):@SR G' C:=by
 cases h with
 | mk a b c d f g i j=>exact @SR.mk G' C a b c d f g i (by rw [e]; exact j)
theorem runZ {f:FuncId} {args:List AV} {r:AV} (h:Pq f args r) {C:Cx} {vs:Array Value} (hs:SRz C) (hv:VRs C args vs.toList) :
  Calls prog f vs C.w fun e w'=>∃ v C',e=.returned v/\C'.w=w'/\Le C C'/\SRz C'/\C'.S=C.S/\C'.tk=C.tk/\C'.n=C.n/\VR C' r v :=
 Ux mixed (h C.S C.tk C.n) rfl rfl rfl hs hv
theorem Ah4 {f:FuncId} {args:List AV} {r r':AV} (h:Pq f args r) (h':Pq f args r'):r=r':=by
 have h1:=h [] [] 0;rw [h' [] [] 0] at h1;simp only [A0,Cc] at h1;exact h1.1.symm
theorem Zx (l:List RowT):Pq 7 [Au l] (.bool (J3 l)):=fun S tk k=>Aeq S tk k l
theorem Am7:Pq 8 [] (.bool true):=fun S tk k=>Aep S tk k
theorem Am9 (l:List RowT) (hl:∀ r ∈ l,r.1.length<=1048576):Pq 18 [Au l] (.int (sysE l)):=fun S tk k=>Jy S tk k l hl
theorem Q2 (l:List RowT) (r:RowT) (hl:l.length<=12) (dz:∀ r ∈ l,r.1.length<=1048576) (hr:r.1.length<=1048576):Pq 13 [Au l,.agg (rowC r)] (.bool (Ej l r)):=fun S tk k=>Tf S tk k l r hl dz hr
open Classical in
noncomputable def askG (f:FuncId) (args:List AV):Option AV:=if h:∃ r,Pq f (args.map w2) r then some h.choose else none
theorem Afd {f:FuncId} {args:List AV} {r:AV} (h:askG f args=some r):Pq f (args.map w2) r:=by
 unfold askG at h;split at h
 ·rename_i hx; cases h; exact hx.choose_spec
 ·cases h
theorem Am6 {f:FuncId} {args:List AV} {r:AV} (h:Pq f (args.map w2) r):askG f args=some r:=by
 have hx:∃ r,Pq f (args.map w2) r:=⟨r,h⟩;unfold askG;rw [dif_pos hx,Ah4 hx.choose_spec h]
def onG (f:FuncId):Bool:=f == 7 || f == 8 || f == 18 || f == 13
def lkG (f:FuncId):Bool:=f == 19 || lkF0 f
def mvG (f:FuncId):Bool:=f == 19 || mvF0 f
noncomputable def callG:Bd:=fun f args S tk n=>(askG f args).map fun r=>(r,S,tk,n)
@[reducible] instance GG:Globs:=⟨glZ,shZ,true,ownF,lkG,anF0,true,false⟩
@[reducible] noncomputable instance EG:Ext prog:=⟨onG,callG,mvG⟩
theorem SR_G {C:Cx} : SR C↔SRz C:=⟨fun h=>Alw GG Gz rfl h,fun h=>Alw Gz GG rfl h⟩
theorem Ts {f:FuncId} {args:List AV} {S:List Ent} {tk:List Nat} {n:Nat} {r:AV} {S':List Ent} {tk':List Nat} {n':Nat} (h:@extC prog EG f args S tk n=some (r,S',tk',n')) :
  onG f=true/\S'=S/\tk'=tk/\n'=n/\askG f args=some r:=by
 unfold extC at h;split at h
 ·rename_i gg;change (askG f args).map (fun r=>(r,S,tk,n))=_ at h;simp only [B6,Cc] at h;obtain ⟨x,hx,rfl,rfl,rfl,rfl⟩:=h;exact ⟨gg,rfl,rfl,rfl,hx⟩
 ·simp at h
theorem Ajz {f:FuncId} {args:List AV} {r:AV} (gg:onG f=true) (h:askG f args=some r) (S:List Ent) (tk:List Nat) (n:Nat):@extC prog EG f args S tk n=some (r,S,tk,n):=by
 unfold extC;refine (if_pos gg).trans ?_;show (askG f args).map _=_;rw [h]; rfl
theorem Aqd {f : FuncId} (h : onG f = true) : ∃ fn, prog.funcs[f]? = some fn ∧ (fn.name == "runtime.NumGoroutine") = false ∧ fn.body.isNone = false := by
 simp only [onG,Fz,beq_iff_eq] at h;rcases h with ((rfl|rfl)|rfl)|rfl
 ·exact ⟨_,func7,aO,aO⟩
 ·exact ⟨_,func8,aO,aO⟩
 ·exact ⟨_,func18,aO,aO⟩
 ·exact ⟨_,func13,aO,aO⟩
instance okG:Y5 prog:={
 ok:=fun f args S tk n r S' tk' n' h=>by
  obtain ⟨gg,rfl,rfl,rfl,hx⟩:=Ts h;refine ⟨Aqd gg,fun C vs h1 h2 h3 hs hv=>?_⟩;subst h1 h2 h3;refine (runZ (Afd hx) (SR_G.1 hs) (Aa1 hv)).mono ?_;rintro e w' ⟨v,C',q1,q2,q3,q4,q5⟩;exact ⟨v,C',q1,q2,q3,SR_G.2 q4,q5⟩
 indep:=fun M f args S tk n r S' tk' n' h=>by
  unfold Ec at h;split at h
  ·rename_i hp;obtain ⟨gg,e1,e2,e3,hx⟩:=Ts h;refine ⟨e1,e2,.inr ⟨e3,fun S2 tk2 n2=>?_⟩⟩;unfold Ec;rw [if_pos hp];exact Ajz gg hx S2 tk2 n2
  ·simp at h }
theorem ext_mv2 (f:FuncId) (h:CkF (mvG f)):Ext.mv prog f=false:=h.h
theorem ext_mvT2 (f:FuncId) (h:CkT (mvG f)):Ext.mv prog f=true:=h.h
set_option linter.defProp false in
def ev2:=Bv ext_mv2 <| Bv ext_mvT2 ev0
set_option linter.defProp false in
def evs2:=Bv ext_mv2 <| Bv ext_mvT2 evs0
set_option linter.defProp false in
def evg2:=Bv @Alq <| Bv @Alp <| Bv @Aat <| Bv @Aas evs2
theorem tell {f:FuncId} {args:List AV} {r:AV} (gg:onG f=true) (h:Pq f (args.map w2) r) (S:List Ent) (tk:List Nat) (k:Nat):cL prog f args S tk k=some (r,S,tk,k):=by
 refine Pv gg ?_;show (askG f args).map _=_;rw [Am6 h]; rfl
end
end Go.Proofs.YthelkgdmgihhiaaGreat
