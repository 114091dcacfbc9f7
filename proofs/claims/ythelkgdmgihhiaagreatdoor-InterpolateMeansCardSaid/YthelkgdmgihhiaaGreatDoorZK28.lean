/- Part 28. -/
import Derived.Test.YthelkgdmgihhiaaGreatDoorZK27
namespace Go.Proofs.YthelkgdmgihhiaaGreatDoor
section
open Go Tryz Go.RowKit
theorem Afn {C:Cx} (hs:SR C) {p:PT} {v:Value} (h:VR C (.agg (predC p)) v):PV C.w p v:=by
 cases p with
 | node o s n ks =>
  unfold PV
  simp only [predC,VR] at h ⊢
  obtain ⟨vs,rfl,h⟩:=h
  refine ⟨vs,rfl,?_⟩
  obtain ⟨l⟩:=vs
  match l,h with
  | [x0,x1,x2,x3],h =>
   simp only [VRs,VR,and_true] at h ⊢
   obtain ⟨h0,h1,h2,a,len,cap,rfl,q1,q2,-,q4⟩:=h
   refine ⟨h0,h1,h2,a,len,cap,rfl,q1,q2,trivial,q4.imp id ?_⟩
   rintro ⟨b,o',sz,ea,hr⟩
   exact ⟨b,o',sz,ea,Ap.stays (A:=C.Avoid) (fun b' o'' v hv ha=>⟨hv,Uz fun hb=>ha (.inl (by rw [hb]; exact (T9 hs).2 o''))⟩) b sz o' _ hr⟩
  | [],h=>simp [VRs] at h
  | [_],h=>simp [VRs] at h
  | [_,_],h=>simp [VRs] at h
  | [_,_,_],h=>simp [VRs] at h
  | _ :: _ :: _ :: _ :: _ :: _,h=>simp [VRs] at h
theorem Ae0:X3 where
 nodes:=fun p hn S tk k=>tell rfl rfl (by rw [show [AV.agg (predC p)].map w2=[AV.agg (predC p)] by cases p; rfl]; exact Ae1 p hn) S tk k
 depth:=fun p hn S tk k=>tell rfl rfl (by rw [show [AV.agg (predC p)].map w2=[AV.agg (predC p)] by cases p; rfl]; exact Aej p hn) S tk k
 node:=fun p _ S tk k=>by cases p with|node o s n ks=>exact Z9 S tk k o s n ks
theorem Afh {C:Cx} {vs:Array Value} (hs:SR C) (p:PT) (hn:Ai p) (hv:VRs C [.agg (predC p)] vs.toList) :
  Calls prog 49 vs C.w fun e w'=>∃ v C',e=.returned v/\C'.w=w'/\Le C C'/\SR C'/\C'.S=C.S/\C'.tk=C.tk/\C'.n=C.n/\VR C' (.prim (.int .i64 (Bc p))) v:=by
 obtain ⟨vl⟩:=vs
 match vl,hv with
 | [x],hv =>
 simp only [VRs,and_true] at hv
 refine (callsIn_wide.1 (Ab2 Ae0 p hn C.w x (T9 hs).1 (Afn hs hv))).mono ?_
 rintro e w' ⟨rfl,hb⟩
 exact ⟨_,C.at w',rfl,rfl,Le.of_below hb,SR.of_below hs hb,rfl,rfl,rfl,by simp [VR]⟩
theorem Yx {args:List AV} {r:AV} (h:chkC args=some r):∃ p,args=[.agg (predC p)]/\Ai p/\r=.prim (.int .i64 (Bc p)):=by
 unfold chkC at h
 split at h
 ·rename_i hp
  simp only [Option.some.injEq] at h
  exact ⟨hp.choose,hp.choose_spec.1,hp.choose_spec.2,h.symm⟩
 ·simp at h
theorem Ra (p:PT) (hn:Ai p):chkC [.agg (predC p)]=some (.prim (.int .i64 (Bc p))):=by
 have hx:∃ q,[AV.agg (predC p)]=[.agg (predC q)]/\Ai q:=⟨p,rfl,hn⟩
 unfold chkC
 rw [dif_pos hx]
 have h1:[AV.agg (predC p)]=[AV.agg (predC hx.choose)]:=hx.choose_spec.1
 have h2:predC p=predC hx.choose:=by
  injection h1 with h1 _
  injection h1
 rw [<- R8 h2]
theorem Rj {f:FuncId} {args:List AV} {S:List Ent} {tk:List Nat} {n:Nat} {r:AV} {S':List Ent} {tk':List Nat} {n':Nat} (h:@extC prog E3 f args S tk n=some (r,S',tk',n')) :
  (f=49/\S'=S/\tk'=tk/\n'=n/\∃ p,args=[.agg (predC p)]/\Ai p/\r=.prim (.int .i64 (Bc p)))\/((f == 49)=false/\Ez args S tk n f=some (r,S',tk',n')):=by
 unfold extC at h
 split at h
 ·change (if f == 49 then (chkC args).map fun r=>(r,S,tk,n) else Ez args S tk n f)=_ at h
  split at h
  ·rename_i hf
   simp only [Option.map_eq_some_iff,Prod.mk.injEq] at h
   obtain ⟨x,hx,rfl,rfl,rfl,rfl⟩:=h
   exact .inl ⟨by simpa using hf,rfl,rfl,rfl,Yx hx⟩
  ·rename_i hf
   exact .inr ⟨by simpa using hf,h⟩
 ·simp at h
theorem Acc (p:PT) (hn:Ai p) (S:List Ent) (tk:List Nat) (n:Nat):@extC prog E3 49 [.agg (predC p)] S tk n=some (.prim (.int .i64 (Bc p)),S,tk,n):=by
 unfold extC
 refine (if_pos (show onK 49=true from rfl)).trans ?_
 show (if 49 == 49 then (chkC [.agg (predC p)]).map fun r=>(r,S,tk,n) else _)=_
 rw [if_pos (by rfl),Ra p hn]; rfl
theorem Acd {f:FuncId} (hf:(f == 49)=false) (ho:onK f=true) (args:List AV) (S:List Ent) (tk:List Nat) (n:Nat):@extC prog E3 f args S tk n=Ez args S tk n f:=by
 unfold extC
 refine (if_pos ho).trans ?_
 show (if f == 49 then _ else _)=_
 rw [hf]; rfl
@[reducible] noncomputable instance E3i:Ext prog:=E3
instance ok3:Qn prog:={
 ok:=fun f args S tk n r S' tk' n' h=>by
  rcases Rj h with ⟨rfl,rfl,rfl,rfl,p,rfl,hn,rfl⟩|⟨hf,hh⟩
  ·refine ⟨⟨_,func49,by decide +kernel,by decide +kernel⟩,fun C vs h1 h2 h3 hs hv=>?_⟩
   subst h1 h2 h3
   exact Afh hs p hn hv
  ·exact Vd f args S tk n r S' tk' n' hh
 indep:=fun M f args S tk n r S' tk' n' h=>by
  unfold Bq at h
  split at h
  ·rename_i hp
   rcases Rj h with ⟨rfl,rfl,rfl,rfl,p,rfl,hn,rfl⟩|⟨hf,hh⟩
   ·refine ⟨rfl,rfl,.inr ⟨rfl,fun S2 tk2 n2=>?_⟩⟩
    unfold Bq
    rw [if_pos hp]
    exact Acc p hn S2 tk2 n2
   ·obtain ⟨e1,e2,e3,eo,e4⟩:=Nn hh
    refine ⟨e1,e2,.inr ⟨e3,fun S2 tk2 n2=>?_⟩⟩
    unfold Bq
    rw [if_pos hp,Acd hf eo]
    exact e4 S2 tk2 n2
  ·simp at h }
theorem ext_mv3 (f:FuncId):@Ext.mv prog E3 f=false:=rfl
set_option linter.defProp false in
def ev3:=And.intro ext_mv3 ev0
theorem Xj (S:List Ent) (tk:List Nat) (k:Nat) (p:PT) (hn:Ai p):cL prog 49 [.agg (predC p)] S tk k=some (.int (Bc p),S,tk,k):=by
 refine K7 rfl ?_
 show (if 49 == 49 then (chkC [.agg (predC p)]).map fun r=>(r,S,tk,k) else _)=_
 rw [if_pos (by rfl),Ra p hn]; rfl
theorem tell3 {f:FuncId} {args:List AV} {r:AV} (bi:onG f=true) (hf:(f == 196)=false) (h:E7 f (args.map w2) r) (S:List Ent) (tk:List Nat) (k:Nat):cL prog f args S tk k=some (r,S,tk,k):=told3 (tell bi hf h S tk k)
end
section
open Go Tryz
mutual
theorem Qk:∀ {p:PT},sumP p->valP p
 | .node o s n ks,h=>by
  rw [sumP] at h
  rw [valP]
  rcases h with h|⟨h1,h2,h3⟩
  ·exact .inl h
  ·exact .inr ⟨by omega,h2,Tl h3⟩
theorem Tl:∀ {ks:List PT},Nf ks->M1 ks
 | [],_=>by rw [M1]; trivial
 | k :: ks,h=>by
  rw [Nf] at h
  rw [M1]
  exact ⟨Qk h.1,Tl h.2⟩
end
section
variable (S:List Ent) (tk:List Nat) (k:Nat)
theorem Xk (o:Int) (s t:ByteArray) (n m:Int) (ks:List PT) (es:List (List AV)) (ho:o≠0):cL prog 22 [.agg (predC (.node o s n ks)),.agg [.int 0,.str t,.int m,.frz es .unk]] S tk k=some (.bool false,S,tk,k):=by
 have q0:(o == 0)=false:=by simpa using ho
 refine opP func22 ntmps22 (hp3:=rfl) ?_
 simp (maxSteps:=10^6)+contextual(disch:=try exact dqd)only[ev3,simprocAttr,AV.int,AV.bool,AV.str,results22,predC,q0]
def M7 (pt:List (ByteArray × Int)) (p:PT):Int × Bool:=if Bc p=0 then (if (valQ pt p).2=true then ((valQ pt p).1,true) else (0,false)) else (0,false)
theorem R0 (p:PT) (pt:List (ByteArray × Int)) (hp:pt.length<=1048576) (hn:Ai p) (hv:valP p):cL prog 23 [.agg (predC p),Ad pt,.frz [] .unk] S tk k=some (.tup [.int (M7 pt p).1,.bool (M7 pt p).2],S,tk,k):=by
 have hC S tk k:=Xj S tk k p hn
 have hV S tk k:=tell3 rfl rfl (by rw [show [atA pt,AV.agg (predC p)].map w2=[atA pt,AV.agg (predC p)] by cases p; rfl]; exact Afe pt hp p hv) S tk k
 simp only [atA,Ad] at hV
 rw [Ag] at hC hV ⊢
 unfold M7
 refine opP func23 ntmps23 (hp3:=rfl) ?_
 by_cases h0:Bc p=0
 ·have c1:(Bc p != 0)=false:=by simpa using h0
  rw [if_pos h0]
  cases hb:(valQ pt p).2 with
  | true =>
   rw [hb] at hV
   rw [if_pos rfl]
   simp (maxSteps:=10^6)+contextual(disch:=try exact dqd)only[ev3,simprocAttr,AV.int,AV.bool,AV.str,results23,Ad,hC,c1,hV,Bool.not_true]
  | false =>
   rw [hb] at hV
   rw [if_neg (by simp)]
   simp (maxSteps:=10^6)+contextual(disch:=try exact dqd)only[ev3,simprocAttr,AV.int,AV.bool,AV.str,results23,Ad,hC,c1,hV,Bool.not_false]
 ·have c1:(Bc p != 0)=true:=by simpa using h0
  rw [if_neg h0]
  simp (maxSteps:=10^6)+contextual(disch:=try exact dqd)only[ev3,simprocAttr,AV.int,AV.bool,AV.str,results23,Ad,hC,c1]
theorem P4 (o:Int) (s:ByteArray) (n:Int) (ks:List PT) (pt:List (ByteArray × Int)) (hp:pt.length<=1048576) (ho:o≠0) (hn:Ai (.node o s n ks)) (hv:valP (.node o s n ks)) :
  cL prog 9 [.agg (predC (.node o s n ks)),Ad pt,.frz [] .unk] S tk k=some (.tup [.bool ((M7 pt (.node o s n ks)).1 != 0),.bool (M7 pt (.node o s n ks)).2],S,tk,k):=by
 have hE S tk k:=R0 S tk k (.node o s n ks) pt hp hn hv
 have hS t m S tk k:=(Ab1 (args:=[.agg [.int o,.str s,.int n,.frz (Bj ks) .unk],.agg [.int 0,.str t,.int m,.frz [] .nilc]]) (args':=[.agg (predC (.node o s n ks)),.agg [.int 0,.str t,.int m,.frz [] .unk]]) rfl rfl rfl).trans (Xk S tk k o s t n m ks [] ho)
 generalize M7 pt (.node o s n ks)=w at *
 simp only [predC,Ad] at hE hS
 refine opP func9 ntmps9 (hp3:=rfl) ?_
 simp (maxSteps:=10^6)+contextual(disch:=try exact dqd)only[ev3,simprocAttr,AV.int,AV.bool,AV.str,results9,predC,Ad,hS,hE]
end
theorem Xi (r:RowT):∃ o ks,D6 r=.node o bE 0 ks/\o≠0:=by
 unfold D6
 split
 ·refine ⟨_,_,rfl,?_⟩
  split <;> decide
 ·exact ⟨_,_,rfl,by decide⟩
theorem Xx {r:RowT} (h:B0 r.1 r.2.1=0):valP (D6 r):=by
 unfold D6
 rw [if_pos h,valP,M1,M1,M1]
 refine .inr ⟨?_,rfl,Qk (Kb Hw),Qk (Kb Hw),trivial⟩
 split <;> simp
section
variable (S:List Ent) (tk:List Nat) (k:Nat)
theorem Aes {o n:Int} {s:ByteArray} {C D:List (List AV)} : cL prog 9 [.agg [.int o,.str s,.int n,.frz C .unk],.frz D .unk,.frz [] .nilc] S tk k=cL prog 9 [.agg [.int o,.str s,.int n,.frz C .unk],.frz D .unk,.frz [] .unk] S tk k:=Ab1 rfl rfl rfl
set_option maxRecDepth 100000 in
set_option maxHeartbeats 4000000 in
theorem Hz (r:RowT) (pt:List (ByteArray × Int)):cL prog 3 [.agg (rowC r),Ad pt] S tk k=some (.bool true,S,tk,k):=by
 have hA S tk k:=tell3 (f:=6) (args:=[]) rfl rfl Aef S tk k
 have hL c S tk k:=tell3 (f:=4) (args:=[.frz [rowC r] c]) rfl rfl (Aey [r]) S tk k
 simp only [rowC,Ad] at hL
 refine opP func3 ntmps3 (hp3:=rfl) ?_
 by_cases h1:H8 [r]=true
 case neg =>
  rw [Bool.not_eq_true] at h1
  rw [h1] at hL
  simp (maxSteps:=10^6)+contextual(disch:=try exact dqd)only[ev3,simprocAttr,AV.int,AV.bool,AV.str,results3,rowC,Ad,hL,hA,Bool.not_true,Bool.not_false]
 have r1:=(Acn h1).2 r (by simp)
 rw [h1] at hL
 by_cases h2:pt.length<=12
 case neg =>
  have d1:decide (((pt.length:Nat):Int) > 12)=true:=by simp; omega
  simp (maxSteps:=10^6)+contextual(disch:=try exact dqd)only[ev3,simprocAttr,AV.int,AV.bool,AV.str,results3,rowC,Ad,hL,hA,d1,Bool.not_true,Bool.not_false]
 have d1:decide (((pt.length:Nat):Int) > 12)=false:=by simp; omega
 have hC S tk k:=tell3 (f:=5) (args:=[linA r.1 r.2.1]) rfl rfl (r11_Z r.1 r.2.1 (by omega)) S tk k
 simp only [linA,Ad] at hC
 by_cases h0:B0 r.1 r.2.1=0
 case neg =>
  have c1:(B0 r.1 r.2.1 != 0)=true:=by simpa using h0
  simp (maxSteps:=10^6)+contextual(disch:=try exact dqd)only[ev3,simprocAttr,AV.int,AV.bool,AV.str,results3,rowC,Ad,hL,hA,d1,hC,c1,Bool.not_true,Bool.not_false]
 have c1:(B0 r.1 r.2.1 != 0)=false:=by simpa using h0
 have hP S tk k:=tell3 (f:=7) (args:=[.agg (rowC r)]) rfl rfl (Aet r (by omega)) S tk k
 have hS c S tk k:=tell3 (f:=8) (args:=[.frz [rowC r] c,Ad pt]) rfl rfl (sat_Z [r] pt (by simp) (fun q h=>by rw [List.mem_singleton.1 h]; omega) (by omega)) S tk k
 have hK S tk k:=tell3 (f:=10) (args:=[.agg (predC (D6 r))]) rfl rfl (by rw [show [AV.agg (predC (D6 r))].map w2=[AV.agg (predC (D6 r))] by cases D6 r; rfl]; exact r07_Z (D6 r) (L7 (L8 r))) S tk k
 have hN S tk k:=tell3 (f:=11) (args:=[linA r.1 r.2.1]) rfl rfl (Ae6 r.1 r.2.1 (by omega)) S tk k
 have k1:(Ga pt true [r]).2=true->(M7 pt (D6 r)).2=true->(Ga pt true [r]).1=((M7 pt (D6 r)).1 != 0):=fun g1 g2=>by
  unfold M7 at g2 ⊢
  split at g2
  ·rename_i hc
   rw [if_pos hc]
   split at g2
   ·rename_i hv
    rw [if_pos hv]
    exact Acp h0 g1 hv
   ·cases g2
  ·cases g2
 have k2:Ek r.1=true->Bc (D6 r)=0:=Ty h0 r1
 have ii:=L7 (L8 r)
 have b9:=Xx h0
 obtain ⟨o,ks,hq,ho⟩:=Xi r
 rw [hq] at hP hK k1 k2 ii b9
 have hH S tk k:=(Aes S tk k).trans (P4 S tk k o bE 0 ks pt (by omega) ho ii b9)
 generalize M7 pt (.node o bE 0 ks)=w at *
 simp only [predC,rowC,Ad,linA,List.map_cons,List.map_nil] at hP hS hK hN hH
 generalize (Ga pt true [r]).1=x at *
 generalize (Ga pt true [r]).2=ok at *
 generalize Bc (.node o bE 0 ks)=cq at *
 generalize Ek r.1=pl at *
 generalize (w.1 != 0)=y at *
 generalize w.2=is at *
 have kB:cq=0\/((cq == 0)=false/\pl=false):=by
  by_cases hc:cq=0
  ·exact .inl hc
  ·refine .inr ⟨by simpa using hc,?_⟩
   cases pl with
   | false=>rfl
   | true=>exact absurd (k2 rfl) hc
 have kA:ok=false\/(ok=true/\is=false)\/(ok=true/\is=true/\(x == y)=true):=by
  revert k1; cases ok <;> cases is <;> simp
 clear k1 k2 hq ho ii b9
 rcases kB with rfl|⟨z1,rfl⟩ <;> rcases kA with rfl|⟨rfl,rfl⟩|⟨rfl,rfl,z2⟩
 ·simp (maxSteps:=10^6)+contextual(disch:=try exact dqd)only[ev3,simprocAttr,AV.int,AV.bool,AV.str,results3,rowC,Ad,hL,hA,d1,hC,c1,hP,hS,hK,hN,hH,Bool.not_true,Bool.not_false]
 ·simp (maxSteps:=10^6)+contextual(disch:=try exact dqd)only[ev3,simprocAttr,AV.int,AV.bool,AV.str,results3,rowC,Ad,hL,hA,d1,hC,c1,hP,hS,hK,hN,hH,Bool.not_true,Bool.not_false]
 ·simp (maxSteps:=10^6)+contextual(disch:=try exact dqd)only[ev3,simprocAttr,AV.int,AV.bool,AV.str,results3,rowC,Ad,hL,hA,d1,hC,c1,hP,hS,hK,hN,hH,z2,Bool.not_true,Bool.not_false]
 ·simp (maxSteps:=10^6)+contextual(disch:=try exact dqd)only[ev3,simprocAttr,AV.int,AV.bool,AV.str,results3,rowC,Ad,hL,hA,d1,hC,c1,hP,hS,hK,hN,hH,z1,Bool.not_true,Bool.not_false]
 ·simp (maxSteps:=10^6)+contextual(disch:=try exact dqd)only[ev3,simprocAttr,AV.int,AV.bool,AV.str,results3,rowC,Ad,hL,hA,d1,hC,c1,hP,hS,hK,hN,hH,z1,Bool.not_true,Bool.not_false]
 ·simp (maxSteps:=10^6)+contextual(disch:=try exact dqd)only[ev3,simprocAttr,AV.int,AV.bool,AV.str,results3,rowC,Ad,hL,hA,d1,hC,c1,hP,hS,hK,hN,hH,z1,z2,Bool.not_true,Bool.not_false]
end
end
end Go.Proofs.YthelkgdmgihhiaaGreatDoor
