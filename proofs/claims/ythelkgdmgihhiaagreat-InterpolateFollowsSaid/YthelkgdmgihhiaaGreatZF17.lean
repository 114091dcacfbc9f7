/- Part 17. -/
import Derived.Test.YthelkgdmgihhiaaGreatZF16
open And renaming intro->Cc
open Bool renaming or->Cl,false_eq_true->C7,or_false->F5,or_assoc->Gr,or_eq_true->Io,false_ne_true->Iw,false_or->Oe,eq_iff_iff->iJ,not_eq_true->jB
open Go.Code renaming loop->lO
open Go.IntKind renaming i64->B8
open Go.Proofs.YthelkgdmgihhiaaGreat.AV renaming bool->Bo,int->Ca,str->Cb
open Int renaming reduceNeg->Pn
open List renaming replicate->Cg,length_cons->Cj,map_cons->Cm,length_append->Cn,cons_append->Co,map_nil->Cp,nil_append->Ct,mem_append->Cu,length_nil->Cv,getElem?_append_left->Cy,getElem?_eq_none->C3,mem_cons->C4,length_eq_zero_iff->C5,append_assoc->C6,take_length->C8,map_append->C9,getElem?_map->Fe,take_of_length_le->Ff,length_map->Fg,getElem?_append_right->Fi,append_nil->Fj,drop_eq_nil_of_le->Fm,drop_length->Fp,mem_singleton->Ft,flatten_cons->Fw,drop_zero->Fz,mem_map->F6,getElem?_eq_some_iff->F9,take_succ_cons->He,pairwise_cons->Ib,length_pos_iff->Ic,length_take->Im,mem_of_getElem?->Ip,getElem?_eq_getElem->Ir,take_append_drop->Ix,getElem?_cons_zero->Oa,take->Ob,getElem?_take->Oc,drop->Se,singleton_append->Sq,mem_of_mem_take->iV,drop_append->iY,set_append_right->jZ,map_take->lK,Pairwise->lM
open Nat renaming le_refl->Ce,zero_le->Ci,mul_one->Cw,zero_add->Fk,add_zero->Ie,succ_mul->Nb,zero_mul->Oh,sub_self->Oj,reduceEqDiff->Ol,reduceLeDiff->Om,reduceAdd->O6,reduceSub->O7,reduceBEq->O8,reduceMul->O9,reduceLT->Sj,strongRecOn->Ss,add_comm->kZ
open Ne renaming symm->I8
open Option renaming map_some->Fa
open Option.some renaming injEq->Bg
open Prod.mk renaming injEq->Cf
namespace Go.Proofs.YthelkgdmgihhiaaGreat
section
open Go Tryz
def raA (a:Q):AV:=qA a.1 a.2
section
variable (S:List Ent) (tk:List Nat) (k:Nat)
theorem Ai4 (a b:Q) (ha:okW a) (hb:okW b):cL prog 243 [.agg [],raA a,raA b] S tk k=some (raA (WW.qF.minus a b).1,S,tk,k):=by
 obtain ⟨l1,l2⟩:=Gz ha;obtain ⟨l3,l4⟩:=Gz hb;obtain ⟨g1,g2⟩:=qz_n ha;obtain ⟨g3,g4⟩:=qz_n hb;obtain ⟨an,ad⟩:=a;obtain ⟨bn,bd⟩:=b;simp only at l1 l2 l3 l4 g1 g2 g3 g4;have hJ:=fun S tk k=>Aq5 S tk k (decide (an<0)) (dig an.natAbs) (decide (ad<0)) (dig ad.natAbs) (decide (bn<0)) (dig bn.natAbs) (decide (bd<0)) (dig bd.natAbs) aA aA aA aA;rw [g1,g2,g3,g4] at hJ;refine opP func243 ntmps243 (hp3:=rfl) ?_;simp only [resQ,raA,qA,ratA,digA] at hJ ⊢;simp (maxSteps:=10^6)+contextual(disch:=try exact dqd)only[ev1,simprocAttr,Ca,Bo,Cb,results243,raA,qA,ratA,digA,WW.qF,wn,hJ];exact ⟨rfl,rfl⟩
theorem Ai5 (a b:Q) (ha:okW a) (hb:okW b):cL prog 247 [.agg [],raA a,raA b] S tk k=some (raA (WW.qF.times a b).1,S,tk,k):=by
 obtain ⟨l1,l2⟩:=Gz ha;obtain ⟨l3,l4⟩:=Gz hb;obtain ⟨g1,g2⟩:=qz_n ha;obtain ⟨g3,g4⟩:=qz_n hb;obtain ⟨an,ad⟩:=a;obtain ⟨bn,bd⟩:=b;simp only at l1 l2 l3 l4 g1 g2 g3 g4;have hJ:=fun S tk k=>Aul S tk k (decide (an<0)) (dig an.natAbs) (decide (ad<0)) (dig ad.natAbs) (decide (bn<0)) (dig bn.natAbs) (decide (bd<0)) (dig bd.natAbs) aA aA aA aA;rw [g1,g2,g3,g4] at hJ;refine opP func247 ntmps247 (hp3:=rfl) ?_;simp only [resQ,raA,qA,ratA,digA] at hJ ⊢;simp (maxSteps:=10^6)+contextual(disch:=try exact dqd)only[ev1,simprocAttr,Ca,Bo,Cb,results247,raA,qA,ratA,digA,WW.qF,wn,hJ];exact ⟨rfl,rfl⟩
theorem An1 (a b:Q) (ha:okW a) (hb:okW b):cL prog 244 [.agg [],raA a,raA b] S tk k=some (raA (WW.qF.over a b).1,S,tk,k):=by
 obtain ⟨l1,l2⟩:=Gz ha;obtain ⟨l3,l4⟩:=Gz hb;obtain ⟨g1,g2⟩:=qz_n ha;obtain ⟨g3,g4⟩:=qz_n hb;obtain ⟨an,ad⟩:=a;obtain ⟨bn,bd⟩:=b;simp only at l1 l2 l3 l4 g1 g2 g3 g4;have hJ:=fun S tk k=>Auk S tk k (decide (an<0)) (dig an.natAbs) (decide (ad<0)) (dig ad.natAbs) (decide (bn<0)) (dig bn.natAbs) (decide (bd<0)) (dig bd.natAbs) aA aA aA aA;rw [g1,g2,g3,g4] at hJ;refine opP func244 ntmps244 (hp3:=rfl) ?_;simp only [resQ,raA,qA,ratA,digA] at hJ ⊢;simp (maxSteps:=10^6)+contextual(disch:=try exact dqd)only[ev1,simprocAttr,Ca,Bo,Cb,results244,raA,qA,ratA,digA,WW.qF,wn,hJ];exact ⟨rfl,rfl⟩
theorem Ai6 (n:Int) (hn:i64 n):cL prog 248 [.agg [],.int n] S tk k=some (raA (WW.qF.whole n).1,S,tk,k):=by
 have hJ:=fun S tk k=>Aek S tk k n hn;refine opP func248 ntmps248 (hp3:=rfl) ?_;simp only [raA,qA,ratA,digA,WW.qF] at hJ ⊢;simp (maxSteps:=10^6)+contextual(disch:=try exact dqd)only[ev1,simprocAttr,Ca,Bo,Cb,results248,raA,qA,ratA,digA,WW.qF,hJ];first|rfl|exact ⟨rfl,rfl⟩
theorem An3 (a:Q) (ha:okW a):cL prog 246 [.agg [],raA a] S tk k=some (.int (sgn a),S,tk,k):=by
 have hI:=fun S tk k=>Aek S tk k 0 aD;obtain ⟨l1,l2⟩:=Gz ha;obtain ⟨g1,g2⟩:=qz_n ha;have ko:=Axj ha;obtain ⟨an,ad⟩:=a;simp only at l1 l2 g1 g2;have g0:J2 0 1:=Abo;have hJ:=fun S tk k=>Auj S tk k (decide (an<0)) (dig an.natAbs) (decide (ad<0)) (dig ad.natAbs) (decide ((0:Int)<0)) (dig (0:Int).natAbs) (decide ((1:Int)<0)) (dig (1:Int).natAbs) aA aA aQ aQ;rw [g1,g2,g0.nQ,g0.dQ] at hJ;have hs:cmpZ ((qz (an,ad)).1*1) (0*(qz (an,ad)).2)=sgn (an,ad):=by rw [<- ko]; simp only [cmpZ,sgn,Int.mul_one,Int.zero_mul]
 rw [hs] at hJ;refine opP func246 ntmps246 (hp3:=rfl) ?_;have z1:decide ((0:Int)<0)=false:=rfl;have z2:decide ((1:Int)<0)=false:=rfl;have z3:(0:Int).natAbs=0:=rfl;have z4:(1:Int).natAbs=1:=rfl;simp only [raA,qA,ratA,digA,z1,z2,z3,z4] at hI hJ ⊢;simp (maxSteps:=10^6)+contextual(disch:=try exact dqd)only[ev1,simprocAttr,Ca,Bo,Cb,results246,raA,qA,ratA,digA,hI,hJ]
theorem Zt (a:Q):cL prog 245 [.agg [],raA a] S tk k=some (raA a,S,tk,k):=by
 refine opP func245 ntmps245 (hp3:=rfl) ?_;simp (maxSteps:=10^6)+contextual(disch:=try exact dqd)only[ev1,simprocAttr,Ca,Bo,Cb,results245,raA,qA,ratA,digA]
theorem Ai3:cL prog 242 [.agg []] S tk k=some (.bool true,S,tk,k):=by
 refine opP func242 ntmps242 (hp3:=rfl) ?_;simp (maxSteps:=10^6)+contextual(disch:=try exact dqd)only[ev1,simprocAttr,Ca,Bo,Cb,results242]
end
end
section
open Go
section
variable {P:Program} {fn:Func} {k:List Kont}
abbrev Rs:=AV × List Ent × List Nat × Nat
def Gd (fin:Option (AV × St)->Option Rs) (Φ:Rs->Prop) (x:Option (AV × St)):Prop:=∃ r,fin x=some r/\Φ r
theorem Arn {m:Nat} {Φ:Rs->Prop} {t:Bool} {a b:Option (AV × St)} {tg:Tag (a,b)} : Gd (finS m) Φ (BR (some t) a b tg)↔(t=true->Gd (finS m) Φ a)/\(t=false->Gd (finS m) Φ b):=by
 cases t <;> simp [BR,br]
theorem Arm {Φ:Rs->Prop} {t:Bool} {a b:Option (AV × St)} {tg:Tag (a,b)} : Gd finM Φ (BR (some t) a b tg)↔(t=true->Gd finM Φ a)/\(t=false->Gd finM Φ b):=by
 cases t <;> simp [BR,br]
theorem Aey {m:Nat} {Φ:Rs->Prop} {r:AV} {s:St} : Gd (finS m) Φ (some (r,s))↔Φ (fz3 m s.S r,s.S.take m,s.tk,s.n):=by simp [Gd,finS]
theorem Aex {Φ:Rs->Prop} {r:AV} {s:St} : Gd finM Φ (some (r,s))↔Φ (r,s.S,s.tk,s.n):=by simp [Gd,finM]
theorem Ef [Globs] [Ext P] {ι:Type} {c:Code} {fin:Option (AV × St)->Option Rs} {Φ:Rs->Prop} {tg:Tag (lO c,k)} (I:ι->St->Prop) (μ:ι->Nat) (x:ι)
  (h:∀ x st,I x st->(∀ y st',μ y<μ x->I y st'->Gd fin Φ (KX P fn (.loop c) st' k .mk))->Gd fin Φ (KX P fn c st (.loop c st.S.length :: k) .mk)) {st:St} (h0:I x st):Gd fin Φ (KX P fn (.loop c) st k tg):=by
 have key:∀ n x st,μ x=n->I x st->Gd fin Φ (KX P fn (.loop c) st k .mk):=by
  intro n;induction n using Ss with
  | _ n ih =>
   intro x st hn hI;show Gd fin Φ (RK P fn (.loop c) st k);exact Ya15
 exact key _ x st rfl h0
theorem Aax [Globs] [Ext P] {f : FuncId} {c : Code} (hf : P.funcs[f]? = some fn) (hx : (Ext.on P f || Ext.mv P f) = false) (hb : fn.body = some c) (a7 : (fn.name == "runtime.NumGoroutine") = false) {args : List AV} {nt : Nat} (lx : fn.ntmps = nt) (hp : (args.map w2).all pure2 = false) {S : List Ent} {tk : List Nat} {n : Nat} {Φ : Rs → Prop}
  (h:Gd (finS S.length) Φ (RK P fn c ⟨args++bots (nt - args.length),S,tk,n⟩ [])):∃ r,cL P f args S tk n=some r/\Φ r:=by
 obtain ⟨r,h1,h2⟩:=h;exact ⟨r,Uq hf hx hb a7 lx hp h1,h2⟩
theorem Apv [Globs] [Ext P] {f : FuncId} {c : Code} (hf : P.funcs[f]? = some fn) (hx : (!Ext.on P f && Ext.mv P f) = true) (hb : fn.body = some c) (a7 : (fn.name == "runtime.NumGoroutine") = false) {args : List AV} {nt : Nat} (lx : fn.ntmps = nt) {S : List Ent} {tk : List Nat} {n : Nat} {Φ : Rs → Prop}
  (h:Gd finM Φ (RK P fn c ⟨args++bots (nt - args.length),S,tk,n⟩ [])):∃ r,cL P f args S tk n=some r/\Φ r:=by
 obtain ⟨r,h1,h2⟩:=h;exact ⟨r,Atf hf hx hb a7 lx h1,h2⟩
end
section
variable {P:Program} {fn:Func} [Globs] [Ext P] {f:FuncId} {c:Code} {args:List AV} {nt:Nat} {S:List Ent} {tk:List Nat} {n:Nat} {Φ:Rs->Prop}
theorem opG (hf : P.funcs[f]? = some fn) (lx : fn.ntmps = nt) (h : Gd (finS S.length) Φ (KX P fn c ⟨args ++ bots (nt - args.length), S, tk, n⟩ [] .mk)) (hx : (Ext.on P f || Ext.mv P f) = false := by exact rfl) (hb : fn.body = some c := by exact rfl) (a7 : (fn.name == "runtime.NumGoroutine") = false := by decide +kernel) (hp : (args.map w2).all pure2 = false := by exact rfl) : ∃ r, cL P f args S tk n = some r ∧ Φ r := Aax hf hx hb a7 lx hp h
theorem opM (hf : P.funcs[f]? = some fn) (lx : fn.ntmps = nt) (h : Gd finM Φ (KX P fn c ⟨args ++ bots (nt - args.length), S, tk, n⟩ [] .mk)) (hx : (!Ext.on P f && Ext.mv P f) = true := by exact rfl) (hb : fn.body = some c := by exact rfl) (a7 : (fn.name == "runtime.NumGoroutine") = false := by decide +kernel) : ∃ r, cL P f args S tk n = some r ∧ Φ r := Apv hf hx hb a7 lx h
end
set_option linter.defProp false in
def evg1:=Cc @Arn <| Cc @Arm <| Cc @Aey <| Cc @Aex evs1
/- rows of cells -/
theorem Acv {sz:Nat} : ∀ {e r:List AV},e.length=sz->takeN sz (e++r)=some e:=by
 induction sz with
 | zero=>intro e r h; rw [C5.1 h]; rfl
 | succ n ih =>
  intro e r h;cases e with
  | nil=>simp at h
  | cons x e=>simp only [Co,takeN,ih aO,Fa]
theorem T8 {e':List AV} : ∀ {e r:List AV},e.length=e'.length->over (e++r) 0 e'=some (e'++r):=by
 induction e' with
 | nil=>intro e r h; rw [C5.1 h]; simp [over]
 | cons x e' ih =>
  intro e r h;cases e with
  | nil=>simp at h
  | cons y e=>simp only [Co,over,ih aO,Fa]
section
variable {sz:Nat}
theorem Abi:∀ {es:List (List AV)} {k:Nat} {e:List AV},(∀ e ∈ es,e.length=sz)->nth es k=some e->takeN sz (es.flatten.drop (k*sz))=some e
 | x :: es,0,e,h,hk=>by
  simp only [nth,Bg] at hk;subst hk;simp only [Oh,Fz,Fw];exact Acv (h _ (by simp))
 | x :: es,k+1,e,h,hk=>by
  have hx:=h x (by simp);have e1:(k+1)*sz=x.length+k*sz:=by rw [hx,Nb,kZ]
  rw [e1,Fw,iY];simp only [Nat.add_sub_cancel_left];rw [Fm aA,Ct];exact Abi (fun e he=>h e (by simp [he])) hk
 | [],_,_,_,hk=>by simp [nth] at hk
theorem P6:∀ {es:List (List AV)} {k:Nat} {e e':List AV},(∀ e ∈ es,e.length=sz)->nth es k=some e->e'.length=sz->over es.flatten (k*sz) e'=some (put es k e').flatten
 | x :: es,0,e,e',h,_,he=>by
  simp only [Oh,Fw,put];exact T8 (by rw [h x (by simp),he])
 | x :: es,k+1,e,e',h,hk,he=>by
  have hx:=h x (by simp);have e1:(k+1)*sz=x.length+k*sz:=by rw [hx,Nb,kZ]
  have ih:=P6 (es:=es) (k:=k) (fun e he=>h e (by simp [he])) hk he;have gen:∀ (p cs:List AV) (o:Nat) (r:List AV),over cs o e'=some r->over (p++cs) (p.length+o) e'=some (p++r):=by
   intro p;induction p with
   | nil=>intro cs o r h; simpa using h
   | cons y p ih =>
    intro cs o r h;have:=ih cs o r h;have e2:(y :: p).length+o=(p.length+o)+1:=aC
    rw [e2];cases e' <;> simp only [Co,over,this,Fa]
  rw [e1,Fw];simp only [put,Fw];exact gen x _ _ _ ih
 | [],_,_,_,_,hk,_=>by simp [nth] at hk
end
def flat (ce:Q->List AV) (l:List Q):List AV:=(l.map ce).flatten
section
variable {ce:Q->List AV} {sz:Nat} (hce:∀ q,(ce q).length=sz)
include hce
theorem Au {l:List Q} {k:Nat} {q:Q} (h:nth l k=some q):takeN sz ((flat ce l).drop (k*sz))=some (ce q):=by
 unfold flat;refine Abi (fun e he=>?_) ?_
 ·obtain ⟨x,-,rfl⟩:=F6.1 he;exact hce x
 ·rw [Af] at h ⊢; rw [Fe,h]; rfl
theorem Bn {l:List Q} {k:Nat} {q':Q} (h:k<l.length):over (flat ce l) (k*sz) (ce q')=some (flat ce (put l k q')):=by
 unfold flat;rw [<- Ph];refine P6 (e:=ce l[k]) (fun e he=>?_) ?_ (hce q')
 ·obtain ⟨x,-,rfl⟩:=F6.1 he;exact hce x
 ·rw [Af,Fe,Ir h]; rfl
theorem Va {l:List Q} : (flat ce l).length=l.length*sz:=by
 unfold flat;induction l with
 | nil=>simp
 | cons x l ih=>rw [Cm,Fw,Cn,ih,hce x,Cj,Nb,kZ]
end
abbrev QQ.rcvQ (i e:Nat):AV:=.ref i e 0
abbrev WW.rcvQ (_ _:Nat):AV:=.agg []
abbrev QQ.zeroQ:List AV:=[.int 0,.int 0]
abbrev WW.zeroQ:List AV:=[.prim (.bool false),.frz [] .nilc,.prim (.bool false),.frz [] .nilc]
end
section
open Go Tryz
def ceQ (a:Q):List AV:=[.int a.1,.int a.2]
def ceW (a:Q):List AV:=[.prim (.bool (decide (a.1<0))),digA (dig a.1.natAbs),.prim (.bool (decide (a.2<0))),digA (dig a.2.natAbs)]
theorem A3 (a:Q):(ceQ a).length=2:=rfl
theorem Al (a:Q):(ceW a).length=4:=rfl
theorem B4 (a:Q):(ceQ a).all leafOk=true:=rfl
theorem Av (a:Q):(ceW a).all leafOk=true:=rfl
theorem QQ.Ary (m:Nat) (S:List Ent) (a:Q):(ceQ a).map (fz1 m S)=ceQ a:=rfl
theorem WW.Ary (m:Nat) (S:List Ent) (a:Q):(ceW a).map (fz1 m S)=ceW a:=rfl
theorem QQ.ovQ (a:Q):over [.int 0,.int 0] 0 (ceQ a)=some (ceQ a):=rfl
theorem QQ.ovQ2 (a b:Q):over (ceQ b) 0 (ceQ a)=some (ceQ a):=rfl
theorem WW.ovQ (a:Q):over [.prim (.bool false),.frz [] .nilc,.prim (.bool false),.frz [] .nilc] 0 (ceW a)=some (ceW a):=rfl
theorem WW.ovQ2 (a b:Q):over (ceW b) 0 (ceW a)=some (ceW a):=rfl
theorem QQ.tkQ (a:Q):takeN 2 (ceQ a)=some (ceQ a):=rfl
theorem WW.tkQ (a:Q):takeN 4 (ceW a)=some (ceW a):=rfl
theorem QQ.puQ (a:Q):((ceQ a).map w1).all pure1=true:=rfl
theorem WW.puQ (a:Q):((ceW a).map w1).all pure1=true:=rfl
theorem D9 (a:Q):(ceW a).all pure1=true:=rfl
theorem Ea (a:Q):(ceW a).map w1=ceW a:=rfl
def QQ.FAq (S:List Ent) (iq eq:Nat) (b:Bool):Prop:=entAt S iq eq=some [.prim (.bool b)]
structure WW.FAq (_:List Ent) (_ _:Nat) (_:Bool):Prop where
def WW.flS (S:List Ent) (_ _:Nat) (_:Bool):List Ent:=S
theorem WW.E5 {S:List Ent} {iq eq:Nat} {b c:Bool} (_:WW.FAq S iq eq b):gO S (WW.flS S iq eq c)=some ():=gO_refl
theorem QQ.E5 {S:List Ent} {iq eq:Nat} {b c:Bool} (h:QQ.FAq S iq eq b):gO S (QQ.flS S iq eq c)=some ():=Awl h
theorem QQ.FAq.fS {S:List Ent} {iq eq:Nat} {b c:Bool} (h:QQ.FAq S iq eq b):QQ.FAq (QQ.flS S iq eq c) iq eq (b || c):=Alq h
theorem WW.FAq.fS {S:List Ent} {iq eq:Nat} {b c:Bool} (_:WW.FAq S iq eq b):WW.FAq (WW.flS S iq eq c) iq eq (b || c):=⟨⟩
theorem QQ.FAq.app {S L:List Ent} {iq eq:Nat} {b:Bool} (h:QQ.FAq S iq eq b):QQ.FAq (S++L) iq eq b:=Ad h
theorem WW.FAq.app {S L:List Ent} {iq eq:Nat} {b:Bool} (_:WW.FAq S iq eq b):WW.FAq (S++L) iq eq b:=⟨⟩
theorem QQ.H8 {S L:List Ent} {iq eq:Nat} {b c:Bool} (h:QQ.FAq S iq eq c):QQ.flS (S++L) iq eq b=QQ.flS S iq eq b++L:=Yy (A7 h)
theorem WW.H8 {S L:List Ent} {iq eq:Nat} {b c:Bool} (_:WW.FAq S iq eq c):WW.flS (S++L) iq eq b=WW.flS S iq eq b++L:=rfl
theorem WW.Br {S:List Ent} {iq eq:Nat} {b:Bool} : (WW.flS S iq eq b).length=S.length:=rfl
theorem Bv {S:List Ent} {iq eq j:Nat} {b:Bool} (_:j≠iq):nth (WW.flS S iq eq b) j=nth S j:=rfl
theorem QQ.FAq.put {S:List Ent} {iq eq i:Nat} {b:Bool} {x:Ent} (h:QQ.FAq S iq eq b) (hne:i≠iq):QQ.FAq (put S i x) iq eq b:=by unfold QQ.FAq; rw [Ai hne]; exact h
theorem WW.FAq.put {S:List Ent} {iq eq i:Nat} {b:Bool} {x:Ent} (_:WW.FAq S iq eq b) (_:i≠iq):WW.FAq (put S i x) iq eq b:=⟨⟩
theorem QQ.FAq.of {S S':List Ent} {iq eq:Nat} {b:Bool} (h:QQ.FAq S iq eq b) (hne:nth S' iq=nth S iq):QQ.FAq S' iq eq b:=by unfold QQ.FAq; rw [Ac hne]; exact h
theorem WW.FAq.of {S S':List Ent} {iq eq:Nat} {b:Bool} (_:WW.FAq S iq eq b) (_:nth S' iq=nth S iq):WW.FAq S' iq eq b:=⟨⟩
section
variable (S:List Ent) (tk:List Nat) (k iq eq:Nat) (fl:Bool)
theorem QQ.Nv (a b:Q) (ha:QQ.qF.ok a) (hb:QQ.qF.ok b) (hq:QQ.FAq S iq eq fl):cL prog 217 [.ref iq eq 0,.agg (ceQ a),.agg (ceQ b)] S tk k=some (.agg (ceQ (QQ.qF.minus a b).1),QQ.flS S iq eq (QQ.qF.minus a b).2,tk,k+4):=Aeh S tk k iq eq fl a b ha hb hq
theorem QQ.Ahg (a b:Q) (ha:QQ.qF.ok a) (hb:QQ.qF.ok b) (hq:QQ.FAq S iq eq fl):cL prog 221 [.ref iq eq 0,.agg (ceQ a),.agg (ceQ b)] S tk k=some (.agg (ceQ (QQ.qF.times a b).1),QQ.flS S iq eq (QQ.qF.times a b).2,tk,k+4):=Aei S tk k iq eq fl a b ha hb hq
theorem QQ.Awy (a b:Q) (ha:QQ.qF.ok a) (hb:QQ.qF.ok b) (hq:QQ.FAq S iq eq fl):cL prog 218 [.ref iq eq 0,.agg (ceQ a),.agg (ceQ b)] S tk k=some (.agg (ceQ (QQ.qF.over a b).1),QQ.flS S iq eq (QQ.qF.over a b).2,tk,k+QQ.Abs b):=Aix S tk k iq eq fl a b ha hb hq
theorem QQ.Mw (n:Int) (_:i64 n) (hq:QQ.FAq S iq eq fl):cL prog 222 [.ref iq eq 0,.int n] S tk k=some (.agg (ceQ (QQ.qF.whole n).1),QQ.flS S iq eq (QQ.qF.whole n).2,tk,k+1):=Aej S tk k iq eq fl n hq
theorem QQ.Aer (a:Q) (_:QQ.qF.ok a) (hq:QQ.FAq S iq eq fl):cL prog 220 [.ref iq eq 0,.agg (ceQ a)] S tk k=some (.int (sgn a),S,tk,k+1):=Aiy S tk k iq eq fl a hq
theorem QQ.Af2 (hq:QQ.FAq S iq eq fl):cL prog 216 [.ref iq eq 0] S tk k=some (.bool (!(QQ.qF.stop && fl)),S,tk,k):=Aeg S tk k iq eq fl hq
theorem WW.Af2 (_:WW.FAq S iq eq fl):cL prog 242 [.agg []] S tk k=some (.bool (!(WW.qF.stop && fl)),S,tk,k):=Ai3 S tk k
theorem QQ.V8 (a:Q) (ha:QQ.qF.ok a) (hq:QQ.FAq S iq eq fl):cL prog 219 [.ref iq eq 0,.agg (ceQ a)] S tk k=some (.agg (ceW (QQ.qF.rat a)),S,tk,k+3):=Wy S tk k iq eq fl a ha hq
theorem WW.V8 (a:Q) (_:WW.qF.ok a) (_:WW.FAq S iq eq fl):cL prog 245 [.agg [],.agg (ceW a)] S tk k=some (.agg (ceW (WW.qF.rat a)),S,tk,k+0):=Zt S tk k a
def WW.Abs (_:Q):Nat:=0
theorem WW.Nv (a b:Q) (ha:WW.qF.ok a) (hb:WW.qF.ok b) (_:WW.FAq S iq eq fl):cL prog 243 [.agg [],.agg (ceW a),.agg (ceW b)] S tk k=some (.agg (ceW (WW.qF.minus a b).1),WW.flS S iq eq (WW.qF.minus a b).2,tk,k+0):=Ai4 S tk k a b ha hb
theorem WW.Ahg (a b:Q) (ha:WW.qF.ok a) (hb:WW.qF.ok b) (_:WW.FAq S iq eq fl):cL prog 247 [.agg [],.agg (ceW a),.agg (ceW b)] S tk k=some (.agg (ceW (WW.qF.times a b).1),WW.flS S iq eq (WW.qF.times a b).2,tk,k+0):=Ai5 S tk k a b ha hb
theorem WW.Awy (a b:Q) (ha:WW.qF.ok a) (hb:WW.qF.ok b) (_:WW.FAq S iq eq fl):cL prog 244 [.agg [],.agg (ceW a),.agg (ceW b)] S tk k=some (.agg (ceW (WW.qF.over a b).1),WW.flS S iq eq (WW.qF.over a b).2,tk,k+WW.Abs b):=An1 S tk k a b ha hb
theorem WW.Mw (n:Int) (hn:i64 n) (_:WW.FAq S iq eq fl):cL prog 248 [.agg [],.int n] S tk k=some (.agg (ceW (WW.qF.whole n).1),WW.flS S iq eq (WW.qF.whole n).2,tk,k+0):=Ai6 S tk k n hn
theorem WW.Aer (a:Q) (ha:WW.qF.ok a) (_:WW.FAq S iq eq fl):cL prog 246 [.agg [],.agg (ceW a)] S tk k=some (.int (sgn a),S,tk,k+0):=An3 S tk k a ha
end
/- the algorithm -/
def Kx (F:Fld) (b a r:Q):Q × Bool:=if sgn r=0 then (a,false) else ((F.minus a (F.times b r).1).1,(F.times b r).2 || (F.minus a (F.times b r).1).2)
def lessL (F:Fld) (b:Q):List Q->List Q->List Q × Bool
 | a :: l,r :: m=>((Kx F b a r).1 :: (lessL F b l m).1,(Kx F b a r).2 || (lessL F b l m).2)
 | l,_=>(l,false)
def lessT (F:Fld) (a r:List Q) (c:Nat):List Q × Bool:=match nth a c with|some b=>if sgn b=0 then (a,false) else lessL F b a r|none=>(a,false)
theorem Eg {α:Type} {p u:List α} {x:α} : nth (p++x :: u) p.length=some x:=by
 rw [Af,Fi (Ce _),Oj]; rfl
theorem Gi {α:Type} {p u:List α} {x y:α} : put (p++x :: u) p.length y=p++y :: u:=by
 rw [V1,jZ _ _ (Ce _),Oj]; rfl
def okL (F:Fld) (l:List Q):Prop:=∀ q ∈ l,F.ok q
theorem Arf {F:Fld} (hF:F.Keeps) {b a r:Q} (hb:F.ok b) (ha:F.ok a) (hr:F.ok r):F.ok (Kx F b a r).1:=by
 unfold Kx;split
 ·exact ha
 ·exact hF.minus _ _ ha (hF.times _ _ hb hr)
theorem Qg {F:Fld} {b:Q} : ∀ {l m:List Q},(lessL F b l m).1.length=l.length
 | [],_=>by simp [lessL]
 | a :: l,[]=>rfl
 | a :: l,r :: m=>by simp only [lessL,Cj,Qg]
theorem Y4 {F:Fld} (hF:F.Keeps) {b:Q} (hb:F.ok b):∀ {l m:List Q},okL F l->okL F m->okL F (lessL F b l m).1
 | [],_,h,_=>by simpa [lessL] using h
 | a :: l,[],h,_=>h
 | a :: l,r :: m,h,h'=>by
  intro q hq;simp only [lessL,C4] at hq;rcases hq with rfl|hq
  ·exact Arf hF hb (h _ (by simp)) (h' _ (by simp))
  ·exact Y4 hF hb (fun q hq=>h q bV) (fun q hq=>h' q bV) q hq
theorem QQ.Gq : mRow prog 118 "liquidcheck/simplex.whole" = some 222 ∧ mRow prog 118 "liquidcheck/simplex.minus" = some 217 ∧
  mRow prog 118 "liquidcheck/simplex.times" = some 221 ∧ mRow prog 118 "liquidcheck/simplex.over" = some 218 ∧
  mRow prog 118 "liquidcheck/simplex.sign" = some 220 ∧ mRow prog 118 "liquidcheck/simplex.rational" = some 219 ∧
  mRow prog 118 "liquidcheck/simplex.exact" = some 216 := aQ
theorem WW.Gq : mRow prog 123 "liquidcheck/simplex.whole" = some 248 ∧ mRow prog 123 "liquidcheck/simplex.minus" = some 243 ∧
  mRow prog 123 "liquidcheck/simplex.times" = some 247 ∧ mRow prog 123 "liquidcheck/simplex.over" = some 244 ∧
  mRow prog 123 "liquidcheck/simplex.sign" = some 246 ∧ mRow prog 123 "liquidcheck/simplex.rational" = some 245 ∧
  mRow prog 123 "liquidcheck/simplex.exact" = some 242 := aQ
theorem xfs:xF 216=true/\xF 217=true/\xF 218=true/\xF 219=true/\xF 220=true/\xF 221=true/\xF 222=true/\xF 145=true/\xF 151=true/\xF 137=true/\xF 136=true/\xF 180=true/\xF 170=true/\xF 140=true/\xF 266=true/\xF 147=true/\xF 153=true:=⟨rfl,rfl,rfl,rfl,rfl,rfl,rfl,rfl,rfl,rfl,rfl,rfl,rfl,rfl,rfl,rfl,rfl⟩
end
section
open Go
structure Tb where
 vars:Nat
 real:Nat
 rows:List (List Q)
 cost:List Q
 basis:List Nat
 flip:List Bool
 fl:Bool
def dvS (F:Fld) (b x:Q):Q × Bool:=if sgn x=0 then (x,false) else F.over x b
def divL (F:Fld) (b:Q):List Q->List Q × Bool
 | []=>([],false)
 | x :: l=>((dvS F b x).1 :: (divL F b l).1,(dvS F b x).2 || (divL F b l).2)
def lessK (F:Fld) (row:List Q) (c i k:Nat) (r:List Q):List Q × Bool:=if k=i then (r,false) else lessT F r row c
def lessRows (F:Fld) (row:List Q) (c i:Nat):Nat->List (List Q)->List (List Q) × Bool
 | _,[]=>([],false)
 | k,r :: l=>((lessK F row c i k r).1 :: (lessRows F row c i (k+1) l).1,(lessK F row c i k r).2 || (lessRows F row c i (k+1) l).2)
def at_ {α:Type} (d:α) (l:List α) (k:Nat):α:=(nth l k).getD d
def q0:Q:=(0,1)
def Bk (t:Tb) (i:Nat):List Q:=at_ [] t.rows i
def Eo (F:Fld) (t:Tb) (i c:Nat):Tb :=
 let d:=divL F (at_ q0 (Bk t i) c) (Bk t i)
 let rs:=lessRows F d.1 c i 0 (put t.rows i d.1)
 let k:=lessT F t.cost d.1 c
 { t with rows:=rs.1,cost:=k.1,basis:=put t.basis i c,fl:=((t.fl || d.2) || rs.2) || k.2 }
def worse (basis:List Nat) (s:Int) (k bi:Nat):Bool:=decide (0<s) || (s == 0 && decide (at_ 0 basis bi<at_ 0 basis k))
def B9 (F:Fld) (basis:List Nat) (c W:Nat):Nat->List (List Q)->Option (Nat × Q)->Option (Nat × Q) × Bool
 | _,[],b=>(b,false)
 | k,r :: l,b =>
  if sgn (at_ q0 r c)<=0 then B9 F basis c W (k+1) l b else
   let q:=F.over (at_ q0 r (W - 1)) (at_ q0 r c)
   match b with
   | none=>((B9 F basis c W (k+1) l (some (k,q.1))).1,q.2 || (B9 F basis c W (k+1) l (some (k,q.1))).2)
   | some (bi,least) =>
    let d:=F.minus q.1 least
    let b':=if worse basis (sgn d.1) k bi=true then some (bi,least) else some (k,q.1)
    ((B9 F basis c W (k+1) l b').1,(q.2 || d.2) || (B9 F basis c W (k+1) l b').2)
def Bw (F:Fld) (t:Tb) (c:Nat):Option (Nat × Q) × Bool:=B9 F t.basis c t.cost.length 0 t.rows none
def colF (cost:List Q):Nat->Nat->Option Nat
 | 0,_=>none
 | n+1,k=>if sgn (at_ q0 cost k)<0 then some k else colF cost n (k+1)
def J4 (F:Fld):Nat->Tb->Option (Bool × Tb)
 | 0,_=>none
 | n+1,t=>if (F.stop && t.fl)=true then some (true,t) else
  match colF t.cost t.real 0 with
  | none=>some (true,t)
  | some c=>match Bw F t c with
   | (none,f)=>some (false,{ t with fl:=t.fl || f })
   | (some (i,_),f)=>J4 F n (Eo F { t with fl:=t.fl || f } i c)
def Jd (t:Tb):Bool:=sgn (at_ q0 t.cost (t.cost.length - 1)) == 0
def Lr (basis:List Nat) (k:Nat):Nat->List (List Q)->Option Nat
 | _,[]=>none
 | i,_ :: l=>if at_ 0 basis i=k then some i else Lr basis k (i+1) l
def Dp (F:Fld) (t:Tb) (k:Nat):Q × Bool:=match Lr t.basis k 0 t.rows with|some i=>(at_ q0 (Bk t i) (t.cost.length - 1),false)|none=>F.whole 0
def ptF (F:Fld) (t:Tb) (k:Nat):Q × Bool :=
 let a:=Dp F t (2*k)
 let b:=Dp F t (2*k+1)
 let d:=F.minus a.1 b.1
 (d.1,(a.2 || b.2) || d.2)
def Gg (f:Nat->Q × Bool):Nat->Nat->List Q × Bool
 | 0,_=>([],false)
 | n+1,k=>((f k).1 :: (Gg f n (k+1)).1,(f k).2 || (Gg f n (k+1)).2)
def Gv (F:Fld) (t:Tb):List Q × Bool:=Gg (ptF F t) t.vars 0
def mulF (F:Fld) (t:Tb) (i:Nat):Q × Bool :=
 let y:=F.minus (at_ q0 t.cost (t.real+i)) (F.whole 1).1
 if at_ false t.flip i=true then
  let z:=F.minus (F.whole 0).1 y.1
  (z.1,y.2 || ((F.whole 0).2 || z.2))
 else y
def J6 (F:Fld) (t:Tb):List Q × Bool:=((Gg (mulF F t) t.rows.length 0).1,(F.whole 1).2 || (Gg (mulF F t) t.rows.length 0).2)
structure TI where
 it:Nat
 et:Nat
 ir:Nat
 er:Nat
 ic:Nat
 ec:Nat
 ib:Nat
 eb:Nat
 ids:List (Nat × Nat)
structure Apart (I:TI) (iq:Nat):Prop where
 tr:I.it≠I.ir
 tc:I.it≠I.ic
 tb:I.it≠I.ib
 rc:I.ir≠I.ic
 rb:I.ir≠I.ib
 cb:I.ic≠I.ib
 qt:iq≠I.it
 qr:iq≠I.ir
 qc:iq≠I.ic
 qb:iq≠I.ib
 row:∀ p ∈ I.ids,p.1≠I.it/\p.1≠I.ir/\p.1≠I.ic/\p.1≠I.ib/\p.1≠iq
 rows:∀ i j p q,nth I.ids i=some p->nth I.ids j=some q->i≠j->p.1≠q.1
def dp (W sz:Nat) (x:Nat × Nat):AV:=.sref x.1 x.2 0 W sz
def de (id ep sz:Nat):Nat->AV
 | 0=>.frz [] .nilc
 | n+1=>.sref id ep 0 (n+1) sz
def Di (b:Bool):List AV:=[.bool b]
def intA (n:Nat):AV:=.int (n:Int)
theorem Aj {α:Type} {l:List α} {i:Nat} {x:α} (h:nth l i=some x):x ∈ l:=by rw [Af] at h; exact Ip h
theorem A0 {α:Type} {d:α} {l:List α} {k:Nat} {x:α} (h:nth l k=some x):at_ d l k=x:=by unfold at_; rw [h]; rfl
theorem Kp {α:Type} {l:List α} {i j:Nat} {x:α} (h:i<l.length):nth (put l i x) j=if j=i then some x else nth l j:=by
 by_cases e:j=i
 ·subst e; rw [if_pos rfl,Dm h]
 ·rw [if_neg e,Ae (I8 e)]
theorem Ak {α:Type} {l:List α} {i:Nat} {x:α} : (put l i x).length=l.length:=Am
theorem Mi {α:Type} {l:List α} {i:Nat} {x y:α} : put (put l i x) i y=put l i y:=by
 induction l generalizing i with
 | nil=>rfl
 | cons z l ih=>cases i with
  | zero=>rfl
  | succ i=>simp only [put,ih]
theorem V0 {α:Type} {l:List α} {i:Nat} {x:α} (h:nth l i=some x):put l i x=l:=by
 induction l generalizing i with
 | nil=>rfl
 | cons z l ih=>cases i with
  | zero=>simp only [nth,Bg] at h; subst h; rfl
  | succ i=>simp only [nth] at h; simp only [put,ih h]
theorem Bx {α:Type} {l:List α} {i:Nat} {x y:α} (h:y ∈ put l i x):y=x\/y ∈ l:=by
 rw [V1] at h;rcases List.mem_or_eq_of_mem_set h with h|h
 ·exact .inr h
 ·exact .inl h
theorem Bu {id ep sz n:Nat} (h:0<n):de id ep sz n=.sref id ep 0 n sz:=by
 cases n with
 | zero=>omega
 | succ n=>rfl
theorem Ej {S:List Ent} {n i e:Nat} (h:i<n):entAt (S.take n) i e=entAt S i e:=by
 unfold entAt;rw [Af,Af,Oc]; simp [h]
theorem QQ.FAq.take {S:List Ent} {n iq eq:Nat} {b:Bool} (h:QQ.FAq S iq eq b) (hi:iq<n):QQ.FAq (S.take n) iq eq b:=by unfold QQ.FAq; rw [Ej hi]; exact h
theorem WW.FAq.take {S:List Ent} {n iq eq:Nat} {b:Bool} (_:WW.FAq S iq eq b) (_:True):WW.FAq (S.take n) iq eq b:=⟨⟩
theorem G6 {α:Type} {l:List α} {n j:Nat} (h:j<n):nth (l.take n) j=nth l j:=by
 rw [Af,Af,Oc]; simp [h]
theorem Bj {α:Type} {l m:List α} {j:Nat} (h:j<l.length):nth (l++m) j=nth l j:=by
 rw [Af,Af,Cy h]
theorem Anh {α:Type} {l:List α} {i:Nat} {x:α} : put l i x=[]↔l=[]:=by
 cases l with
 | nil=>simp [put]
 | cons y l=>cases i <;> simp [put]
end
section
open Go Tryz
def Ar (c:ByteArray × Int):List AV:=[.prim (.string c.1),.prim (.int .i64 c.2)]
def Ag (cs:List (ByteArray × Int)):AV:=.frz (cs.map Ar) .unk
def linA (cs:List (ByteArray × Int)) (n:Int):AV:=.agg [Ag cs,.prim (.int .i64 n)]
def rowA (cs:List (ByteArray × Int)) (n:Int) (eq:Bool):AV:=.agg [Ag cs,.prim (.int .i64 n),.prim (.bool eq)]
def D3 (s:ByteArray):Bool:=sEq s ⟨#[]⟩ || decide ((s.size:Int) > 400)
def Kh:Option ByteArray->ByteArray->Bool
 | none,_=>false
 | some p,s=>sLt s p || sEq s p
def A8 (n:Int):Option ByteArray->List (ByteArray × Int)->Int
 | _,[]=>if inB n then 0 else 2
 | p,c :: cs=>if D3 c.1 then 3 else if c.2 == 0 || !inB c.2 then 2 else if Kh p c.1 then 9 else A8 n (some c.1) cs
def A1 (cs:List (ByteArray × Int)) (n:Int):Int:=if 24<cs.length then 7 else A8 n none cs
def G8 (cs:List (ByteArray × Int)):Nat->Option ByteArray
 | 0=>none
 | j+1=>(nth cs j).map (·.1)
section
variable (S:List Ent) (tk:List Nat) (k:Nat)
theorem Ad8 (n:Int):cL prog 58 [.int n] S tk k=some (.bool (inB n),S,tk,k):=by
 refine opP func58 ntmps58 ?_;simp +contextual only [ev0,reduceIte,reduceCtorEq,O6,O7,O8,Ol,O9,Sj,Om,Pn,Ca,Bo,Cb,results58];exact Ya3i
theorem Ae4 (n:Int):cL prog 73 [.int n] S tk k=some (.bool (inB n),S,tk,k):=by
 refine opP func73 ntmps73 ?_;simp +contextual only [ev0,reduceIte,reduceCtorEq,O6,O7,O8,Ol,O9,Sj,Om,Pn,Ca,Bo,Cb,results73];exact Ya3i
theorem Hf (cs:List (ByteArray × Int)) (n:Int) (hlen:cs.length<=1048576):cL prog 33 [linA cs n] S tk k=some (.int (A1 cs n),S,tk,k):=by
 refine opP func33 ntmps33 ?_;simp (maxSteps:=10^6)+contextual(disch:=try exact dqd)only[ev1,reduceIte,reduceCtorEq,O6,O7,O8,Ol,O9,Sj,Om,Pn,Ca,Bo,Cb,results33,linA,Ag];refine ⟨fun h=>?_,fun h=>?_⟩
 ·unfold A1; rw [if_pos fP]
 have hc:A1 cs n=A8 n none cs:=by unfold A1; rw [if_neg fP]
 rw [hc];refine loop1 (fun i st=>st.T.length=57/\i<=cs.length/\getT st.T 1=.ref 0 0 0/\getT st.T 10=Ag cs/\getT st.T 11=.int cs.length/\getT st.T 12=.int (i:Nat)/\st.S=[⟨0,[Ag cs,.int n]⟩]) (fun i=>cs.length - i) (fun i=>.int (A8 n (G8 cs i) (cs.drop i))) 0 ?_ ?_;case refine_2=>exact ⟨rfl,Ci _,rfl,rfl,rfl,rfl,rfl⟩
 rintro i ⟨T,S',tk',n'⟩ ⟨hl,hi,e1,e10,e11,e12,rfl⟩ IH;obtain ⟨g,hg,hT⟩:=Ap hl;rw [hg] at e1 e10 e11 e12;subst hT;clear hg hl h hc;by_cases hlt:i<cs.length
 ·have d1:decide ((i:Int)<(cs.length:Int))=true:=aI
  obtain ⟨c,hc⟩:=Ab hlt;have ew:nth (cs.map Ar) i=some (Ar c):=gE
  have hw:=Aw (i:=i) aA;have hp:G8 cs (i+1)=some c.1:=by simp [G8,hc]
  rw [Ax hc];rcases i with _|j
  ·have d2:decide (((0:Nat):Int) > 0)=false:=rfl;simp (maxSteps:=10^6)+contextual(disch:=try exact dqd)only[ev1,reduceIte,reduceCtorEq,O6,O7,O8,Ol,O9,Sj,Om,Pn,Ca,Bo,Cb,results33,e1,e10,e11,e12,d1,d2,Ag,ew,hw,Ar,Ad8];refine ⟨fun h1=>?_,fun h1=>⟨fun h2=>?_,fun h2=>⟨fun h3=>?_,fun h3=>⟨fun h4=>?_,fun h4=>?_⟩⟩⟩⟩
   ·simp [A8,D3,h1]
   ·exact Ya45
   ·exact Ya3j
   ·rw [IH 1 _ aA ⟨rfl,aA,rfl,rfl,rfl,rfl,rfl⟩,hp];simp only [A8,D3,h1,h2,h3,h4,G8,Kh]; rfl
   ·exact Ya34
  ·have d2:decide (((j+1:Nat):Int) > 0)=true:=decide_eq_true aA;obtain ⟨p,p7⟩:=Ab (show j<cs.length by omega);have ez:nth (cs.map Ar) j=some (Ar p):=by rw [Dd,p7]; rfl
   have hw':=Ac4 (j:=j) aA;have hpp:G8 cs (j+1)=some p.1:=by simp [G8,p7]
   simp (maxSteps:=10^6)+contextual(disch:=try exact dqd)only[ev1,reduceIte,reduceCtorEq,O6,O7,O8,Ol,O9,Sj,Om,Pn,Ca,Bo,Cb,results33,e1,e10,e11,e12,d1,d2,Ag,ew,hw,Ar,Ad8,ez,hw'];refine ⟨fun h1=>?_,fun h1=>⟨fun h2=>?_,fun h2=>⟨fun h3=>?_,fun h3=>⟨fun h4=>?_,fun h4=>?_⟩⟩⟩⟩
   ·simp [A8,D3,h1]
   ·exact Ya45
   ·exact Ya3j
   ·refine ⟨fun h5=>?_,fun h5=>?_⟩
    ·exact Ya1o
    ·rw [IH (j+1+1) _ aA ⟨rfl,aA,rfl,rfl,rfl,rfl,rfl⟩,hp];exact Ya1o
   ·exact Ya34
 ·have d1:decide ((i:Int)<(cs.length:Int))=false:=aI
  have he:i=cs.length:=aA
  simp (maxSteps:=10^6)+contextual(disch:=try exact dqd)only[ev1,reduceIte,reduceCtorEq,O6,O7,O8,Ol,O9,Sj,Om,Pn,Ca,Bo,Cb,results33,e1,e10,e11,e12,d1,Ag,Ad8];exact Ya3a
theorem Jq (cs:List (ByteArray × Int)) (n:Int) (hlen:cs.length<=1048576):cL prog 35 [linA cs n] S tk k=some (.int (A1 cs n),S,tk,k):=by
 refine opP func35 ntmps35 ?_;simp (maxSteps:=10^6)+contextual(disch:=try exact dqd)only[ev1,reduceIte,reduceCtorEq,O6,O7,O8,Ol,O9,Sj,Om,Pn,Ca,Bo,Cb,results35,linA,Ag];refine ⟨fun h=>?_,fun h=>?_⟩
 ·unfold A1; rw [if_pos fP]
 have hc:A1 cs n=A8 n none cs:=by unfold A1; rw [if_neg fP]
 rw [hc];refine loop1 (fun i st=>st.T.length=60/\i<=cs.length/\getT st.T 1=.ref 0 0 0/\getT st.T 3=.int (i:Nat)/\st.S=[⟨0,[Ag cs,.int n]⟩]) (fun i=>cs.length - i) (fun i=>.int (A8 n (G8 cs i) (cs.drop i))) 0 ?_ ?_;case refine_2=>exact ⟨rfl,Ci _,rfl,rfl,rfl⟩
 rintro i ⟨T,S',tk',n'⟩ ⟨hl,hi,e1,e3,rfl⟩ IH;obtain ⟨g,hg,hT⟩:=Ap hl;rw [hg] at e1 e3;subst hT;clear hg hl h hc;by_cases hlt:i<cs.length
 ·have d1:decide ((i:Int)<(cs.length:Int))=true:=aI
  obtain ⟨c,hc⟩:=Ab hlt;have ew:nth (cs.map Ar) i=some (Ar c):=gE
  have hw:=Aw (i:=i) aA;have hp:G8 cs (i+1)=some c.1:=by simp [G8,hc]
  rw [Ax hc];rcases i with _|j
  ·have d2:decide (((0:Nat):Int) > 0)=false:=rfl;simp (maxSteps:=10^6)+contextual(disch:=try exact dqd)only[ev1,reduceIte,reduceCtorEq,O6,O7,O8,Ol,O9,Sj,Om,Pn,Ca,Bo,Cb,results35,e1,e3,d1,d2,Ag,ew,hw,Ar,Ae4];refine ⟨fun h1=>?_,fun h1=>⟨fun h2=>?_,fun h2=>⟨fun h3=>?_,fun h3=>⟨fun h4=>?_,fun h4=>?_⟩⟩⟩⟩
   ·simp [A8,D3,h1]
   ·exact Ya45
   ·exact Ya3j
   ·rw [IH 1 _ aA ⟨rfl,aA,rfl,rfl,rfl⟩,hp];simp only [A8,D3,h1,h2,h3,h4,G8,Kh]; rfl
   ·exact Ya34
  ·have d2:decide (((j+1:Nat):Int) > 0)=true:=decide_eq_true aA;obtain ⟨p,p7⟩:=Ab (show j<cs.length by omega);have ez:nth (cs.map Ar) j=some (Ar p):=by rw [Dd,p7]; rfl
   have hw':=Ac4 (j:=j) aA;have hpp:G8 cs (j+1)=some p.1:=by simp [G8,p7]
   simp (maxSteps:=10^6)+contextual(disch:=try exact dqd)only[ev1,reduceIte,reduceCtorEq,O6,O7,O8,Ol,O9,Sj,Om,Pn,Ca,Bo,Cb,results35,e1,e3,d1,d2,Ag,ew,hw,Ar,Ae4,ez,hw'];refine ⟨fun h1=>?_,fun h1=>⟨fun h2=>?_,fun h2=>⟨fun h3=>?_,fun h3=>⟨fun h4=>?_,fun h4=>?_⟩⟩⟩⟩
   ·simp [A8,D3,h1]
   ·exact Ya45
   ·exact Ya3j
   ·refine ⟨fun h5=>?_,fun h5=>?_⟩
    ·exact Ya1o
    ·rw [IH (j+1+1) _ aA ⟨rfl,aA,rfl,rfl,rfl⟩,hp];exact Ya1o
   ·exact Ya34
 ·have d1:decide ((i:Int)<(cs.length:Int))=false:=aI
  have he:i=cs.length:=aA
  simp (maxSteps:=10^6)+contextual(disch:=try exact dqd)only[ev1,reduceIte,reduceCtorEq,O6,O7,O8,Ol,O9,Sj,Om,Pn,Ca,Bo,Cb,results35,e1,e3,d1,Ag,Ae4];exact Ya3a
end
end
section
open Go Tryz
set_option maxRecDepth 100000
abbrev RowT:=List (ByteArray × Int) × Int × Bool
def rowC (r:RowT):List AV:=[Ag r.1,.prim (.int .i64 r.2.1),.prim (.bool r.2.2)]
def Ao (l:List RowT):AV:=.frz (l.map rowC) .unk
theorem Lg {l:List RowT} {i:Nat} {r:RowT} (h:nth l i=some r):nth (l.map rowC) i=some (rowC r):=dG
theorem Ago {l:List (ByteArray × Int)} {i:Nat} {c:ByteArray × Int} (h:nth l i=some c):nth (l.map Ar) i=some (Ar c):=dG
theorem Li {l:List ByteArray} {i:Nat} {s:ByteArray} (h:nth l i=some s):nth (l.map strC) i=some [.prim (.string s)]:=dG
theorem Gs (l:List ByteArray):B2 1 (l.map strC)=true:=Dh (f:=strC) (sz:=1) (fun _=>rfl) l
def D5 (l:List RowT):List ByteArray:=(l.map fun r=>r.1.map (·.1)).flatten
def Dx (l:List RowT):List ByteArray:=uniS (D5 l)
theorem Aip (l:List RowT) (r:RowT):D5 (l++[r])=D5 l++r.1.map (·.1):=by simp [D5]
theorem B3 {α:Type} : ∀ {l:List α} {i:Nat} {x:α},nth l i=some x->l.take (i+1)=l.take i++[x]
 | a :: l,0,x,h=>dL
 | a :: l,i+1,x,h=>by simp only [He,Co,B3 (l:=l) (i:=i) h]
 | [],_,_,h=>bO
def fewC (l:List RowT):Prop:=∀ r ∈ l,r.1.length<=24
theorem Acc:∀ {l:List RowT},fewC l->(D5 l).length<=24*l.length
 | [],_=>by simp [D5]
 | r :: l,h=>by
  have h1:=h r (by simp);have h2:=Acc (l:=l) fun x hx=>h x bP;simp only [D5,Cm,Fw,Cn,Fg,Cj] at h2 ⊢;omega
theorem Vs {α:Type} {l:List α} {i:Nat} {x:α} (h:nth l i=some x):x ∈ l:=Ip (by rw [Af] at h; exact h)
theorem Abq:∀ (l:List ByteArray) (s:ByteArray),∃ i,i<=l.length/\(∀ j x,j<i->nth l j=some x->sLt x s=true)/\(∀ x,nth l i=some x->sLt x s=false) /\
  putS l s=l.take i++[s]++l.drop (match nth l i with|some x=>if sEq x s=true then i+1 else i|none=>i)
 | [],s=>⟨0,Ce _,fun j x h=>aA,fun x h=>bO,rfl⟩
 | y :: r,s=>by
  cases h1:sLt y s with
  | true =>
   obtain ⟨i,a,b,c,d⟩:=Abq r s;refine ⟨i+1,by simp; exact a,fun j x hj hx=>?_,c,?_⟩
   ·cases j with
    | zero=>simp only [nth,Bg] at hx; subst hx; exact h1
    | succ j=>exact b j x aA hx
   ·rw [putS,if_pos h1,d];simp only [nth];cases nth r i with
    | none=>simp
    | some x=>by_cases h:sEq x s=true <;> simp [h]
  | false =>
   refine ⟨0,Ci _,fun j x hj=>aA,fun x hx=>?_,?_⟩
   ·simp only [nth,Bg] at hx; subst hx; exact h1
   ·rw [putS,if_neg dK];simp only [nth];by_cases h:sEq y s=true
    ·have:y=s:=by rw [Q0] at h; simpa using h
     rw [if_pos h,if_pos h,this]; simp
    ·rw [if_neg h,if_neg h]; simp
section
variable (S:List Ent) (tk:List Nat) (k:Nat)
theorem Ajv (l:List ByteArray) (s:ByteArray) (c:Cap) (hl:l.length<=100000):cL prog 132 [.frz (l.map strC) c,.str s] S tk k=some (Aq (putS l s),S,tk,k):=by
 obtain ⟨i,wd,h2,h3,h4⟩:=Abq l s;rw [h4];refine opP func132 ntmps132 ?_;simp (maxSteps:=10^6)+contextual(disch:=try exact dqd)only[ev1,simprocAttr,Ca,Bo,Cb,results132];refine loop1 (P:=prog) (fun x st=>st.T.length=52/\(x.1<=i)/\(x.2.1=l.take x.1)/\(Be st.tk x.2.2 1=true)/\getT st.T 0=Aq l/\getT st.T 1=.str s/\getT st.T 5=.frz (x.2.1.map strC) x.2.2/\getT st.T 6=.int (x.1:Nat)/\st.S=[]) (fun x=>i - x.1) (fun x=>Aq (l.take i++[s]++l.drop (match nth l i with|some x=>if sEq x s=true then i+1 else i|none=>i))) (0,[],.nilc) ?_ ?_;case refine_2=>exact ⟨rfl,Ci _,rfl,rfl,rfl,rfl,rfl,rfl,rfl⟩
 rintro ⟨j,out,c⟩ ⟨T,S',tk',n'⟩ ⟨hl,hj,ho,ab,e0,e1,e5,e6,eS⟩ IH;simp only at hj ho ab e0 e1 e5 e6 eS;subst eS;obtain ⟨g,hg,hT⟩:=Ap hl;rw [hg] at e0 e1 e5 e6;subst hT;clear hg hl;have oj:out.length<=l.length:=by rw [ho]; simp; omega
 have htl:(l.map strC).take l.length=l.map strC:=Ff (by simp);have hr:=Gs out;have am:=Ba ab;have b7:(out.map strC).length+1<=1048576:=aC
 have ru:=Aw (i:=j) aA;by_cases hlt:j<i
 ·have d1:decide ((j:Int)<(l.length:Int))=true:=aC
  obtain ⟨x,hx⟩:=Ab (show j<l.length by omega);have hx':=Li hx;have d2:=h2 j x hlt hx;have pu:=B3 hx;simp (maxSteps:=10^6)+contextual(disch:=try exact dqd)only[ev1,simprocAttr,Ca,Bo,Cb,results132,e0,e1,e5,e6,d1,d2,Aq,hx',hr,ru];exact IH (j+1,out++[x],Ay tk' c 1) _ aF ⟨rfl,aE,by rw [pu,ho],am,aM,aM,aM,aM,aM⟩
 have rj:j=i:=aA
 subst rj;subst ho;have ae:=Gs (l.take j++[s]);have hr3:=Gs l;have d9:=Ba am;simp only [C9,Cm,Cp,strC] at ae;by_cases jm:j<l.length;case neg =>
  have d1:decide ((j:Int)<(l.length:Int))=false:=aC
  have hjn:nth l j=none:=by rw [Af]; exact C3 aA
  have hr4:B2 1 (((l.map strC).take l.length).drop j)=true:=Za1j
  have bm:((l.take j).map strC++[[(.prim (.string s):AV)]]).length+(((l.map strC).take l.length).drop j).length<=1048576:=aC
  simp (maxSteps:=10^6)+contextual(disch:=try exact dqd)only[ev1,simprocAttr,Ca,Bo,Cb,results132,e0,e1,e5,e6,d1,Aq,hr,Gw,hr3,bound,wd,Ce,Ci,ae,hr4]
  simp [hjn,strC,htl]
 have d1:decide ((j:Int)<(l.length:Int))=true:=aC
 obtain ⟨x,hx⟩:=Ab jm;have hx':=Li hx;have d2:=h3 x hx;have yo:j+1<=l.length:=jm;cases d3:sEq x s with
 | true =>
  have hr4:B2 1 (((l.map strC).take l.length).drop (j+1))=true:=Za1j
  have bm:((l.take j).map strC++[[(.prim (.string s):AV)]]).length+(((l.map strC).take l.length).drop (j+1)).length<=1048576:=aC
  simp (maxSteps:=10^6)+contextual(disch:=try exact dqd)only[ev1,simprocAttr,Ca,Bo,Cb,results132,e0,e1,e5,e6,d1,d2,d3,hx',ru,Aq,hr,Gw,hr3,bound,yo,Ce,Ci,ae,hr4];simp [hx,d3,strC,htl]
 | false =>
  have hr4:B2 1 (((l.map strC).take l.length).drop j)=true:=Za1j
  have bm:((l.take j).map strC++[[(.prim (.string s):AV)]]).length+(((l.map strC).take l.length).drop j).length<=1048576:=aC
  simp (maxSteps:=10^6)+contextual(disch:=try exact dqd)only[ev1,simprocAttr,Ca,Bo,Cb,results132,e0,e1,e5,e6,d1,d2,d3,hx',ru,Aq,hr,Gw,hr3,bound,wd,Ce,Ci,ae,hr4];simp [hx,d3,strC,htl]
theorem Aju (l:List ByteArray) (s:ByteArray) (c c2:Cap) (hi:Inc l) (hl:l.length<=90000):cL prog 105 [.frz (l.map strC) c,.frz [[.prim (.string s)]] c2] S tk k=some (Aq (putS l s),S,tk,k):=by
 refine opP func105 ntmps105 ?_;simp (maxSteps:=10^6)+contextual(disch:=try exact dqd)only[ev1,simprocAttr,Ca,Bo,Cb,results105];refine loop1 (P:=prog) (fun x st=>st.T.length=33/\(x.1<=l.length)/\(x.2.1=l.take x.1)/\getT st.T 0=Aq l/\getT st.T 1=.frz [[.prim (.string s)]] .unk/\getT st.T 5=.frz (x.2.1.map strC) x.2.2/\getT st.T 8=Aq l/\getT st.T 9=.int l.length/\getT st.T 10=.int (x.1:Nat)/\st.S=[]) (fun x=>l.length - x.1) (fun x=>Aq (putS l s)) (0,[],.nilc) ?_ ?_;case refine_2=>exact ⟨rfl,Ci _,rfl,rfl,rfl,rfl,rfl,rfl,rfl,rfl⟩
 rintro ⟨j,out,c3⟩ ⟨T,S',tk',n'⟩ ⟨hl,hj,ho,e0,e1,e5,e8,e9,e10,eS⟩ IH;simp only at hj ho e0 e1 e5 e8 e9 e10 eS;subst eS;obtain ⟨g,hg,hT⟩:=Ap hl;rw [hg] at e0 e1 e5 e8 e9 e10;subst hT;clear hg hl;have ru:=Aw (i:=j) aA;have oj:out.length<=l.length:=by rw [ho]; simp; omega
 by_cases hlt:j<l.length
 ·have d1:decide ((j:Int)<(l.length:Int))=true:=aI
  obtain ⟨x,hx⟩:=Ab hlt;have hx':=Li hx;have hP:=fun S tk k=>Ajv S tk k out x c3 aA;have hpe:putS out x=out++[x]:=Ags fun y hy=>by
   rw [ho] at hy;have h1:Inc (l.take j++l.drop j):=by rw [Ix]; exact hi
   exact (List.pairwise_append.1 h1).2.2 y hy x (by rw [Ax hx]; simp)
  rw [hpe] at hP;simp only [Aq] at hP;have pu:=B3 hx;simp (maxSteps:=10^6)+contextual(disch:=try exact dqd)only[ev1,simprocAttr,Ca,Bo,Cb,results105,e0,e1,e5,e8,e9,e10,d1,Aq,hx',ru,hP];exact IH (j+1,out++[x],.unk) _ aF ⟨rfl,aE,by rw [pu,ho],aM,aM,aM,aM,aM,aM,aM⟩
 ·have d1:decide ((j:Int)<(l.length:Int))=false:=aI
  have rj:j=l.length:=aA
  subst rj;rw [C8] at ho;subst ho;have hP:=fun S tk k=>Ajv S tk k out s c3 aA;simp only [Aq] at hP;simp (maxSteps:=10^6)+contextual(disch:=try exact dqd)only[ev1,simprocAttr,Ca,Bo,Cb,results105,e0,e1,e5,e8,e9,e10,d1,Aq];refine loop1 (P:=prog) (fun x st=>st.T.length=33/\(x<=1)/\getT st.T 1=.frz [[.prim (.string s)]] .unk/\getT st.T 5=(if x=0 then .frz (out.map strC) c3 else Aq (putS out s))/\getT st.T 20=.frz [[.prim (.string s)]] .unk/\getT st.T 21=.int ((1:Nat):Int)/\getT st.T 22=.int (x:Nat)/\st.S=[]) (fun x=>1 - x) (fun x=>Aq (putS out s)) (0) ?_ ?_;case refine_2=>exact ⟨rfl,Ci _,rfl,rfl,rfl,rfl,rfl,rfl⟩
  rintro j ⟨T,S',tk',n'⟩ ⟨hl,hj,e1,e5,e20,e21,e22,eS⟩ IH;subst eS;obtain ⟨g,hg,hT⟩:=Ap hl;rw [hg] at e1 e5 e20 e21 e22;subst hT;clear hg hl;by_cases h0:j=0
  ·subst h0;rw [if_pos rfl] at e5;have d2:decide (((0:Nat):Int)<((1:Nat):Int))=true:=rfl;have a34:B8.wrap (((0:Nat):Int)+1)=((1:Nat):Int):=Aa aD;simp (maxSteps:=10^6)+contextual(disch:=try exact dqd)only[ev1,simprocAttr,Ca,Bo,Cb,results105,e1,e5,e20,e21,e22,d2,a34,hP];exact IH (1) _ aF ⟨rfl,aE,aM,aM,aM,aM,aM,aM⟩
  ·have yo:j=1:=aA
   subst yo;rw [if_neg aA] at e5;have d2:decide (((1:Nat):Int)<((1:Nat):Int))=false:=rfl;simp (maxSteps:=10^6)+contextual(disch:=try exact dqd)only[ev1,simprocAttr,Ca,Bo,Cb,results105,e1,e5,e20,e21,e22,d2,Aq]
end
end
section
open Go Tryz
set_option maxRecDepth 100000
theorem Xt {l:List RowT} {i:Nat} {r:RowT} (h:nth l i=some r):D5 (l.take (i+1))=D5 (l.take i)++r.1.map (·.1):=by
 rw [B3 h,Aip]
theorem Aqc {l:List RowT} (h:fewC l) (i:Nat):fewC (l.take i):=fun r hr=>h r (iV hr)
theorem Alx {l:List RowT} (h:fewC l) (hl:l.length<=64) (i:Nat):(D5 (l.take i)).length<=1536:=by
 have h1:=Acc (Aqc h i);have:(l.take i).length<=64:=aC
 omega
theorem Au2 (l:List ByteArray):(uniS l).length<=l.length:=(Jz l).2.2
section
variable (S:List Ent) (tk:List Nat) (k:Nat)
theorem Pt (l:List RowT) (hf:fewC l) (hl:l.length<=64):cL prog 70 [Ao l] S tk k=some (Aq (Dx l),S,tk,k):=by
 refine opP func70 ntmps70 ?_;simp (maxSteps:=10^6)+contextual(disch:=try exact dqd)only[ev1,simprocAttr,Ca,Bo,Cb,results70,Ao];refine loop1 (P:=prog) (fun x st=>st.T.length=30/\(x.1<=l.length)/\(x.2.1=uniS (D5 (l.take x.1)))/\getT st.T 3=.frz (x.2.1.map strC) x.2.2/\getT st.T 8=Ao l/\getT st.T 9=.int l.length/\getT st.T 10=.int (x.1:Nat)/\st.S=[]) (fun x=>l.length - x.1) (fun x=>Aq (Dx l)) (0,[],.nilc) ?_ ?_;case refine_2=>exact ⟨rfl,Ci _,rfl,rfl,rfl,rfl,rfl,rfl⟩
 rintro ⟨i,out,c⟩ ⟨T,S',tk',n'⟩ ⟨hl,hi,ho,e3,e8,e9,e10,eS⟩ IH;simp only at hi ho e3 e8 e9 e10 eS;subst eS;obtain ⟨g,hg,hT⟩:=Ap hl;rw [hg] at e3 e8 e9 e10;subst hT;clear hg hl;have OUT:=IH;clear IH;have bg:=Aw (i:=i) aA;by_cases hlt:i<l.length
 ·have d1:decide ((i:Int)<(l.length:Int))=true:=aI
  obtain ⟨r,hx⟩:=Ab hlt;have hx':=Lg hx;have i6:=hf r (Vs hx);have hnl:=Alx hf hl i;have lx:=Xt hx;simp only [rowC,Ag] at hx';simp (maxSteps:=10^6)+contextual(disch:=try exact dqd)only[ev1,simprocAttr,Ca,Bo,Cb,results70,e3,e8,e9,e10,d1,Ao,hx'];refine loop1 (P:=prog) (fun x st=>st.T.length=30/\(x.1<=r.1.length)/\(x.2.1=uniS (D5 (l.take i)++(r.1.take x.1).map (·.1)))/\getT st.T 3=.frz (x.2.1.map strC) x.2.2/\getT st.T 8=Ao l/\getT st.T 9=.int l.length/\getT st.T 10=.int (i:Nat)/\getT st.T 16=.frz (r.1.map Ar) .unk/\getT st.T 17=.int r.1.length/\getT st.T 18=.int (x.1:Nat)/\st.S=[⟨n',[.frz (r.1.map Ar) .unk,.int r.2.1,.bool r.2.2]⟩]) (fun x=>r.1.length - x.1) (fun x=>Aq (Dx l)) (0,out,c) ?_ ?_;case refine_2=>exact ⟨rfl,Ci _,by simp [ho],rfl,rfl,rfl,rfl,rfl,rfl,rfl,rfl⟩
  rintro ⟨j,out2,c2⟩ ⟨T,S',tk',n'⟩ ⟨hl,hj,kn,e3,e8,e9,e10,e16,e17,e18,eS⟩ IH;simp only at hj kn e3 e8 e9 e10 e16 e17 e18 eS;subst eS;obtain ⟨g,hg,hT⟩:=Ap hl;rw [hg] at e3 e8 e9 e10 e16 e17 e18;subst hT;clear hg hl;have ru:=Aw (i:=j) aA;have rg:(D5 (l.take i)++(r.1.take j).map (·.1)).length<=1600:=aC
  have hul:=Au2 (D5 (l.take i)++(r.1.take j).map (·.1));by_cases cj:j<r.1.length
  ·have d2:decide ((j:Int)<(r.1.length:Int))=true:=cC
   obtain ⟨q,hq⟩:=Ab cj;have ml:=Ago hq;simp only [Ar] at ml;have hU:=fun S tk k=>Aju S tk k out2 q.1 c2 .tight (by rw [kn]; exact (Jz _).1) (by rw [kn]; omega);have pu:=B3 hq;simp only [Aq] at hU;simp (maxSteps:=10^6)+contextual(disch:=try exact dqd)only[ev1,simprocAttr,Ca,Bo,Cb,results70,e3,e8,e9,e10,e16,e17,e18,d2,ml,ru,hU];exact IH (j+1,putS out2 q.1,.unk) _ aF ⟨rfl,aE,by rw [pu,C9,<- C6,Cm,Cp,Arj,kn],aM,aM,aM,aM,aM,aM,aM,aM⟩
  ·have d2:decide ((j:Int)<(r.1.length:Int))=false:=cC
   have rj:j=r.1.length:=aA
   subst rj;rw [C8] at kn;simp (maxSteps:=10^6)+contextual(disch:=try exact dqd)only[ev1,simprocAttr,Ca,Bo,Cb,results70,e3,e8,e9,e10,e16,e17,e18,d2,bg];exact OUT (i+1,out2,c2) _ aF ⟨rfl,aE,by rw [lx,kn],aM,aM,aM,aM,aM⟩
 ·have d1:decide ((i:Int)<(l.length:Int))=false:=aI
  have fv:i=l.length:=aA
  subst fv;rw [C8] at ho;simp (maxSteps:=10^6)+contextual(disch:=try exact dqd)only[ev1,simprocAttr,Ca,Bo,Cb,results70,e3,e8,e9,e10,d1,Ao];rw [ho]; rfl
theorem Ek (l:List RowT) (hf:fewC l) (hl:l.length<=64):cL prog 41 [Ao l] S tk k=some (Aq (Dx l),S,tk,k):=by
 refine opP func41 ntmps41 ?_;simp (maxSteps:=10^6)+contextual(disch:=try exact dqd)only[ev1,simprocAttr,Ca,Bo,Cb,results41,Ao];refine loop1 (P:=prog) (fun x st=>st.T.length=31/\(x.1<=l.length)/\(x.2.1=D5 (l.take x.1))/\(Be st.tk x.2.2 1=true)/\((!x.2.1.isEmpty || Vf x.2.2)=true)/\getT st.T 3=.frz (x.2.1.map strC) x.2.2/\getT st.T 8=Ao l/\getT st.T 9=.int l.length/\getT st.T 10=.int (x.1:Nat)/\st.S=[]) (fun x=>l.length - x.1) (fun x=>Aq (Dx l)) (0,[],.nilc) ?_ ?_;case refine_2=>exact ⟨rfl,Ci _,rfl,rfl,rfl,rfl,rfl,rfl,rfl,rfl⟩
 rintro ⟨i,out,c⟩ ⟨T,S',tk',n'⟩ ⟨hl,hi,ho,ab,hc,e3,e8,e9,e10,eS⟩ IH;simp only at hi ho ab hc e3 e8 e9 e10 eS;subst eS;obtain ⟨g,hg,hT⟩:=Ap hl;rw [hg] at e3 e8 e9 e10;subst hT;clear hg hl;have OUT:=IH;clear IH;have bg:=Aw (i:=i) aA;have hnl:=Alx hf hl i;by_cases hlt:i<l.length
 ·have d1:decide ((i:Int)<(l.length:Int))=true:=aI
  obtain ⟨r,hx⟩:=Ab hlt;have hx':=Lg hx;have i6:=hf r (Vs hx);have lx:=Xt hx;simp only [rowC,Ag] at hx';simp (maxSteps:=10^6)+contextual(disch:=try exact dqd)only[ev1,simprocAttr,Ca,Bo,Cb,results41,e3,e8,e9,e10,d1,Ao,hx'];refine loop1 (P:=prog) (fun x st=>st.T.length=31/\(x.1<=r.1.length)/\(x.2.1=D5 (l.take i)++(r.1.take x.1).map (·.1))/\(Be st.tk x.2.2 1=true)/\((!x.2.1.isEmpty || Vf x.2.2)=true)/\getT st.T 3=.frz (x.2.1.map strC) x.2.2/\getT st.T 8=Ao l/\getT st.T 9=.int l.length/\getT st.T 10=.int (i:Nat)/\getT st.T 16=.frz (r.1.map Ar) .unk/\getT st.T 17=.int r.1.length/\getT st.T 18=.int (x.1:Nat)/\st.S=[⟨n',[.frz (r.1.map Ar) .unk,.int r.2.1,.bool r.2.2]⟩]) (fun x=>r.1.length - x.1) (fun x=>Aq (Dx l)) (0,out,c) ?_ ?_;case refine_2=>exact ⟨rfl,Ci _,by simp [ho],ab,hc,rfl,rfl,rfl,rfl,rfl,rfl,rfl,rfl⟩
  rintro ⟨j,out2,c2⟩ ⟨T,S',tk',n'⟩ ⟨hl,hj,kn,d9,hc2,e3,e8,e9,e10,e16,e17,e18,eS⟩ IH;simp only at hj kn d9 hc2 e3 e8 e9 e10 e16 e17 e18 eS;subst eS;obtain ⟨g,hg,hT⟩:=Ap hl;rw [hg] at e3 e8 e9 e10 e16 e17 e18;subst hT;clear hg hl;have ru:=Aw (i:=j) aA;have rg:out2.length<=1600:=by rw [kn]; simp; omega
  have hr:=Gs out2;have am:=Ba d9;have b7:(out2.map strC).length+1<=1048576:=aC
  by_cases cj:j<r.1.length
  ·have d2:decide ((j:Int)<(r.1.length:Int))=true:=cC
   obtain ⟨q,hq⟩:=Ab cj;have ml:=Ago hq;simp only [Ar] at ml;have pu:=B3 hq;simp (maxSteps:=10^6)+contextual(disch:=try exact dqd)only[ev1,simprocAttr,Ca,Bo,Cb,results41,e3,e8,e9,e10,e16,e17,e18,d2,ml,ru,hr];exact IH (j+1,out2++[q.1],Ay tk' c2 1) _ aF ⟨rfl,aE,by rw [pu,C9,<- C6,kn]; rfl,am,by simp,aM,aM,aM,aM,aM,aM,aM,aM⟩
  ·have d2:decide ((j:Int)<(r.1.length:Int))=false:=cC
   have rj:j=r.1.length:=aA
   subst rj;rw [C8] at kn;simp (maxSteps:=10^6)+contextual(disch:=try exact dqd)only[ev1,simprocAttr,Ca,Bo,Cb,results41,e3,e8,e9,e10,e16,e17,e18,d2,bg];exact OUT (i+1,out2,c2) _ aF ⟨rfl,aE,by rw [lx,kn],d9,hc2,aM,aM,aM,aM,aM⟩
 ·have d1:decide ((i:Int)<(l.length:Int))=false:=aI
  have fv:i=l.length:=aA
  subst fv;rw [C8] at ho hnl;have hU:=fun S tk k=>Ad7 S tk k out c (by rw [ho]; omega) hc;simp only [Aq] at hU;simp (maxSteps:=10^6)+contextual(disch:=try exact dqd)only[ev1,simprocAttr,Ca,Bo,Cb,results41,e3,e8,e9,e10,d1,Ao,hU];rw [ho]; rfl
def Gu:List RowT->Int
 | []=>0
 | r :: l=>if A1 r.1 r.2.1 != 0 then A1 r.1 r.2.1 else Gu l
def sysE (l:List RowT):Int:=if 64<l.length then 7 else if Gu l != 0 then Gu l else if 24<(Dx l).length then 7 else 0
theorem Hk {cs:List (ByteArray × Int)} {n:Int} (h:A1 cs n=0):cs.length<=24:=by
 unfold A1 at h;split at h
 ·cases h
 ·omega
theorem P5:∀ {l:List RowT},Gu l=0->fewC l
 | [],_=>fun r hr=>by simp at hr
 | r :: l,h=>by
  unfold Gu at h;by_cases h0:A1 r.1 r.2.1=0
  ·rw [h0] at h;simp only [bne_self_eq_false,C7,if_false] at h;intro x hx;rcases C4.1 hx with rfl|hx
   ·exact Hk h0
   ·exact P5 h x hx
  ·exact Ya40
theorem Lv (l:List RowT) (bw:∀ r ∈ l,r.1.length<=1048576):cL prog 69 [Ao l] S tk k=some (.int (sysE l),S,tk,k):=by
 refine opP func69 ntmps69 ?_;by_cases h64:64<l.length
 ·have d0:decide ((l.length:Int) > 64)=true:=aC
  simp (maxSteps:=10^6)+contextual(disch:=try exact dqd)only[ev1,simprocAttr,Ca,Bo,Cb,results69,Ao,d0];simp [sysE,h64]
 have d0:decide ((l.length:Int) > 64)=false:=aC
 simp (maxSteps:=10^6)+contextual(disch:=try exact dqd)only[ev1,simprocAttr,Ca,Bo,Cb,results69,Ao,d0];refine loop1 (P:=prog) (fun x st=>st.T.length=26/\(x<=l.length)/\(Gu l=Gu (l.drop x))/\getT st.T 0=Ao l/\getT st.T 9=Ao l/\getT st.T 10=.int l.length/\getT st.T 11=.int (x:Nat)/\st.S=[]) (fun x=>l.length - x) (fun x=>.int (sysE l)) (0) ?_ ?_;case refine_2=>exact ⟨rfl,Ci _,rfl,rfl,rfl,rfl,rfl,rfl⟩
 rintro i ⟨T,S',tk',n'⟩ ⟨hl,hi,hE,e0,e9,e10,e11,eS⟩ IH;subst eS;obtain ⟨g,hg,hT⟩:=Ap hl;rw [hg] at e0 e9 e10 e11;subst hT;clear hg hl;have bg:=Aw (i:=i) aA;by_cases hlt:i<l.length
 ·have d1:decide ((i:Int)<(l.length:Int))=true:=aI
  obtain ⟨r,hx⟩:=Ab hlt;have hx':=Lg hx;have hC:=fun S tk k=>Jq S tk k r.1 r.2.1 (bw r (Vs hx));simp only [rowC,Ag] at hx';simp only [linA,Ag] at hC;rw [Ax hx,Gu] at hE;generalize A1 r.1 r.2.1=e at *;cases h0:(e != 0) with
  | true =>
   simp (maxSteps:=10^6)+contextual(disch:=try exact dqd)only[ev1,simprocAttr,Ca,Bo,Cb,results69,e0,e9,e10,e11,d1,Ao,hx',hC,bg,h0];exact Ya48
  | false =>
   rw [h0,if_neg (by simp)] at hE;simp (maxSteps:=10^6)+contextual(disch:=try exact dqd)only[ev1,simprocAttr,Ca,Bo,Cb,results69,e0,e9,e10,e11,d1,Ao,hx',hC,bg,h0];exact IH (i+1) _ aF ⟨rfl,aE,hE,aM,aM,aM,aM,aM⟩
 ·have d1:decide ((i:Int)<(l.length:Int))=false:=aI
  have fv:i=l.length:=aA
  subst fv;rw [Fp] at hE;have ry:Gu l=0:=hE;have hV:=fun S tk k=>Pt S tk k l (P5 ry) aA;have hs:sysE l=if 24<(Dx l).length then 7 else 0:=by unfold sysE; rw [if_neg h64,ry]; rfl
  rw [hs];simp only [Ao,Aq] at hV;by_cases h24:24<(Dx l).length
  ·have d2:decide (((Dx l).length:Int) > 24)=true:=aC
   simp (maxSteps:=10^6)+contextual(disch:=try exact dqd)only[ev1,simprocAttr,Ca,Bo,Cb,results69,e0,e9,e10,e11,d1,Ao,hV,d2];rw [if_pos h24]
  ·have d2:decide (((Dx l).length:Int) > 24)=false:=aC
   simp (maxSteps:=10^6)+contextual(disch:=try exact dqd)only[ev1,simprocAttr,Ca,Bo,Cb,results69,e0,e9,e10,e11,d1,Ao,hV,d2];rw [if_neg h24]
theorem Hp (l:List RowT) (bw:∀ r ∈ l,r.1.length<=1048576):cL prog 18 [Ao l] S tk k=some (.int (sysE l),S,tk,k):=by
 refine opP func18 ntmps18 ?_;by_cases h64:64<l.length
 ·have d0:decide ((l.length:Int) > 64)=true:=aC
  simp (maxSteps:=10^6)+contextual(disch:=try exact dqd)only[ev1,simprocAttr,Ca,Bo,Cb,results18,Ao,d0];simp [sysE,h64]
 have d0:decide ((l.length:Int) > 64)=false:=aC
 simp (maxSteps:=10^6)+contextual(disch:=try exact dqd)only[ev1,simprocAttr,Ca,Bo,Cb,results18,Ao,d0];refine loop1 (P:=prog) (fun x st=>st.T.length=26/\(x<=l.length)/\(Gu l=Gu (l.drop x))/\getT st.T 0=Ao l/\getT st.T 9=Ao l/\getT st.T 10=.int l.length/\getT st.T 11=.int (x:Nat)/\st.S=[]) (fun x=>l.length - x) (fun x=>.int (sysE l)) (0) ?_ ?_;case refine_2=>exact ⟨rfl,Ci _,rfl,rfl,rfl,rfl,rfl,rfl⟩
 rintro i ⟨T,S',tk',n'⟩ ⟨hl,hi,hE,e0,e9,e10,e11,eS⟩ IH;subst eS;obtain ⟨g,hg,hT⟩:=Ap hl;rw [hg] at e0 e9 e10 e11;subst hT;clear hg hl;have bg:=Aw (i:=i) aA;by_cases hlt:i<l.length
 ·have d1:decide ((i:Int)<(l.length:Int))=true:=aI
  obtain ⟨r,hx⟩:=Ab hlt;have hx':=Lg hx;have hC:=fun S tk k=>Hf S tk k r.1 r.2.1 (bw r (Vs hx));simp only [rowC,Ag] at hx';simp only [linA,Ag] at hC;rw [Ax hx,Gu] at hE;generalize A1 r.1 r.2.1=e at *;cases h0:(e != 0) with
  | true =>
   simp (maxSteps:=10^6)+contextual(disch:=try exact dqd)only[ev1,simprocAttr,Ca,Bo,Cb,results18,e0,e9,e10,e11,d1,Ao,hx',hC,bg,h0];exact Ya48
  | false =>
   rw [h0,if_neg (by simp)] at hE;simp (maxSteps:=10^6)+contextual(disch:=try exact dqd)only[ev1,simprocAttr,Ca,Bo,Cb,results18,e0,e9,e10,e11,d1,Ao,hx',hC,bg,h0];exact IH (i+1) _ aF ⟨rfl,aE,hE,aM,aM,aM,aM,aM⟩
 ·have d1:decide ((i:Int)<(l.length:Int))=false:=aI
  have fv:i=l.length:=aA
  subst fv;rw [Fp] at hE;have ry:Gu l=0:=hE;have hV:=fun S tk k=>Ek S tk k l (P5 ry) aA;have hs:sysE l=if 24<(Dx l).length then 7 else 0:=by unfold sysE; rw [if_neg h64,ry]; rfl
  rw [hs];simp only [Ao,Aq] at hV;by_cases h24:24<(Dx l).length
  ·have d2:decide (((Dx l).length:Int) > 24)=true:=aC
   simp (maxSteps:=10^6)+contextual(disch:=try exact dqd)only[ev1,simprocAttr,Ca,Bo,Cb,results18,e0,e9,e10,e11,d1,Ao,hV,d2];rw [if_pos h24]
  ·have d2:decide (((Dx l).length:Int) > 24)=false:=aC
   simp (maxSteps:=10^6)+contextual(disch:=try exact dqd)only[ev1,simprocAttr,Ca,Bo,Cb,results18,e0,e9,e10,e11,d1,Ao,hV,d2];rw [if_neg h24]
theorem Hc {l:List RowT} (h:sysE l=0):fewC l/\l.length<=64/\(Dx l).length<=24/\Gu l=0:=by
 unfold sysE at h;split at h
 ·cases h
 ·split at h
  ·rename_i h1 h2; rw [h] at h2; cases h2
  ·rename_i h1 h2;split at h
   ·cases h
   ·have h0:Gu l=0:=cA
    exact ⟨P5 h0,aA,aA,h0⟩
theorem Ao3 (l:List RowT) (h:sysE l=0):cL prog 32 [Ao l] S tk k=some (Aq (Dx l),S,tk,k):=by
 obtain ⟨h1,h2,-,-⟩:=Hc h;have hC:=fun S tk k=>Lv S tk k l (fun r hr=>by have:=h1 r hr; omega);have hV:=fun S tk k=>Pt S tk k l h1 h2;rw [h] at hC;have d0:((0:Int) != 0)=false:=rfl;simp only [Ao,Aq] at hC hV;refine opP func32 ntmps32 ?_;simp (maxSteps:=10^6)+contextual(disch:=try exact dqd)only[ev1,simprocAttr,Ca,Bo,Cb,results32,Ao,Aq,hC,hV,d0]
theorem Tl (l:List RowT) (h:sysE l=0):cL prog 27 [Ao l] S tk k=some (Aq (Dx l),S,tk,k):=by
 obtain ⟨h1,h2,-,-⟩:=Hc h;have hC:=fun S tk k=>Hp S tk k l (fun r hr=>by have:=h1 r hr; omega);have hV:=fun S tk k=>Ek S tk k l h1 h2;rw [h] at hC;have d0:((0:Int) != 0)=false:=rfl;simp only [Ao,Aq] at hC hV;refine opP func27 ntmps27 ?_;simp (maxSteps:=10^6)+contextual(disch:=try exact dqd)only[ev1,simprocAttr,Ca,Bo,Cb,results27,Ao,Aq,hC,hV,d0]
end
end
section
open Go
def IncC (cs:List (ByteArray × Int)):Prop:=Inc (cs.map (·.1))
theorem Ar2:∀ {n:Int} {p:Option ByteArray} {cs:List (ByteArray × Int)},A8 n p cs=0->inB n=true/\∀ c ∈ cs,inB c.2=true
 | n,p,[],h=>by
  unfold A8 at h;split at h
  ·rename_i h1; exact ⟨h1,fun c hc=>by simp at hc⟩
  ·cases h
 | n,p,c :: cs,h=>by
  unfold A8 at h;split at h
  ·cases h
  ·split at h
   ·cases h
   ·rename_i h1;split at h
    ·cases h
    ·obtain ⟨a,b⟩:=Ar2 h;refine ⟨a,fun x hx=>?_⟩;rcases C4.1 hx with rfl|hx
     ·simp at h1; exact h1.2
     ·exact b x hx
theorem Al7 {n:Int} (h:inB n=true):i64 n:=by unfold inB at h; simp at h; unfold i64; omega
theorem T2:∀ {l:List RowT},Gu l=0->∀ r ∈ l,i64 r.2.1/\∀ c ∈ r.1,i64 c.2
 | [],_=>fun r hr=>by simp at hr
 | r :: l,h=>by
  unfold Gu at h;by_cases h0:A1 r.1 r.2.1=0
  ·rw [h0] at h;simp only [bne_self_eq_false,C7,if_false] at h;intro x hx;rcases C4.1 hx with rfl|hx
   ·unfold A1 at h0;split at h0
    ·cases h0
    ·obtain ⟨a,b⟩:=Ar2 h0;exact ⟨Al7 a,fun c hc=>Al7 (b c hc)⟩
   ·exact T2 h x hx
  ·exact Ya40
theorem Ak7:∀ {n:Int} {p:Option ByteArray} {cs:List (ByteArray × Int)},A8 n p cs=0->IncC cs/\∀ c ∈ cs,∀ b,p=some b->nm b<nm c.1
 | n,p,[],h=>⟨lM.nil,fun c hc=>by simp at hc⟩
 | n,p,c :: cs,h=>by
  unfold A8 at h;split at h
  ·cases h
  ·split at h
   ·cases h
   ·split at h
    ·cases h
    ·rename_i h3;obtain ⟨a,b⟩:=Ak7 h;have hc:∀ x ∈ cs,nm c.1<nm x.1:=fun x hx=>b x hx c.1 rfl;refine ⟨Ib.2 ⟨fun y hy=>?_,a⟩,?_⟩
     ·obtain ⟨x,hx,rfl⟩:=F6.1 hy; exact hc x hx
     ·intro x hx d hd;subst hd;have rt:nm d<nm c.1:=by
       simp only [Kh,Io,not_or,jB] at h3;obtain ⟨e1,e2⟩:=h3;rw [Ag8] at e1;rw [Q0] at e2;rcases Am2 d c.1 with h|h|h
       ·exact h
       ·exact absurd h.symm (by simpa using e2)
       ·exact absurd h (by simpa using e1)
      rcases C4.1 hx with rfl|hx
      ·exact rt
      ·exact List.lt_trans rt (hc x hx)
theorem Ak4 {cs:List (ByteArray × Int)} {n:Int} (h:A1 cs n=0):IncC cs:=by
 unfold A1 at h;split at h
 ·cases h
 ·exact (Ak7 h).1
theorem Ak8:∀ {n:Int} {p:Option ByteArray} {cs:List (ByteArray × Int)},A8 n p cs=0->n.natAbs<=1000000000000/\∀ c ∈ cs,c.2.natAbs<=1000000000000/\c.2≠0
 | n,p,[],h=>by
  unfold A8 at h;split at h
  ·rename_i h1;unfold inB at h1;simp at h1;exact ⟨aA,fun c hc=>by simp at hc⟩
  ·cases h
 | n,p,c :: cs,h=>by
  unfold A8 at h;split at h
  ·cases h
  ·split at h
   ·cases h
   ·rename_i h1;split at h
    ·cases h
    ·obtain ⟨a,b⟩:=Ak8 h;refine ⟨a,fun x hx=>?_⟩;rcases C4.1 hx with rfl|hx
     ·unfold inB at h1;simp at h1;exact ⟨aA,h1.1⟩
     ·exact b x hx
theorem Ak5 {cs:List (ByteArray × Int)} {n:Int} (h:A1 cs n=0):n.natAbs<=1000000000000/\∀ c ∈ cs,c.2.natAbs<=1000000000000/\c.2≠0:=by
 unfold A1 at h;split at h
 ·cases h
 ·exact Ak8 h
theorem Hl:∀ {l:List RowT},Gu l=0->∀ r ∈ l,A1 r.1 r.2.1=0
 | [],_=>fun r hr=>by simp at hr
 | r :: l,h=>by
  unfold Gu at h;by_cases h0:A1 r.1 r.2.1=0
  ·rw [h0] at h;simp only [bne_self_eq_false,C7,if_false] at h;intro x hx;rcases C4.1 hx with rfl|hx
   ·exact h0
   ·exact Hl h x hx
  ·exact Ya40
end
section
open Go Tryz
open Go.Proofs.Tryz renaming func147->ga2,ntmps147->ga3,results147->ga4
open Go.Proofs.YthelkgdmgihhiaaGreat renaming ceQ->ga0,A3->ga1,B4->ga5,Bb->ga6
set_option maxRecDepth 100000
namespace QQ
abbrev ua0:Nat:=118
abbrev ua1:Nat:=147
abbrev ua2:Nat:=2
abbrev ua3:Nat:=1
abbrev ua4:Nat:=4
end QQ
set_option maxHeartbeats 4000000
set_option maxRecDepth 100000
namespace QQ
def Aro (S:List Ent) (tk:List Nat) (ia ea iq eq:Nat) (l:List Q) (fl:Bool) (r:Rs):Prop :=
 ∃ S' k',r=(.tup [],S',tk,k')/\S'.length=S.length/\entAt S' ia ea=some (flat ceQ l)/\FAq S' iq eq fl/\∀ j,j≠ia->j≠iq->nth S' j=nth S j
end QQ
section
variable (S:List Ent) (tk:List Nat) (k iq eq:Nat) (fl:Bool)
abbrev Ax0 (p:Prop:=by exact ∀ (S:List Ent)(tk:List Nat)(k iq eq:Nat)(fl:Bool)(it et ia ea ij ej W c:Nat)(rest:List AV)(a row:List Q)(ht:entAt S it et=some (.ifc ua0 (rcvQ iq eq) :: rest))(hq:FAq S iq eq fl)(ha:entAt S ia ea=some (flat ga0 a))(hr:entAt S ij ej=some (flat ga0 row))(la:a.length=W)(lr:row.length=W)(hc:c<W)(hWb:W<=1000000)(oa:okL qF a)(orr:okL qF row)(ne1:ia≠ij)(ne2:ia≠it)(ne3:ia≠iq)(ne4:iq≠it)(ne5:iq≠ij),∃ r,cL prog ua1 [.ref it et 0,.sref ia ea 0 W ua2,.sref ij ej 0 W ua2,.int c] S tk k=some r/\Aro S tk ia ea iq eq (lessT qF a row c).1 (fl || (lessT qF a row c).2) r):=p
theorem Ma0 {p:Prop} (h:p:=by
 intro S tk k iq eq fl it et ia ea ij ej W c rest a row ht hq ha hr la lr hc hWb oa orr ne1 ne2 ne3 ne4 ne5;obtain ⟨Φ,hΦ⟩:∃ Φ,Φ=Aro S tk ia ea iq eq (lessT qF a row c).1 (fl || (lessT qF a row c).2):=⟨_,rfl⟩;rw [<- hΦ];obtain ⟨b,hb⟩:=Ab (show c<a.length by omega);have ob:qF.ok b:=oa b (by rw [Af] at hb; exact Ip hb);have o5:=Au ga1 hb;have hlt:lessT qF a row c=if sgn b=0 then (a,false) else lessL qF b a row:=by unfold lessT; rw [hb]
 have hs:=Aer S tk k iq eq fl b ob hq;refine opG ga2 ga3 ?_;by_cases h0:sgn b=0
 ·have d1:(sgn b == 0)=true:=aX
  simp (maxSteps:=10^6)+contextual(disch:=try exact dqd)only[evg1,simprocAttr,Ca,Bo,Cb,ga4,ht,ha,hc,o5,hs,d1,Gq,xfs,puQ];rw [hlt,if_pos h0] at hΦ;rw [hΦ];exact ⟨S,_,rfl,rfl,ha,by rw [F5]; exact hq,fun j _ _=>rfl⟩
 have d1:(sgn b == 0)=false:=aX
 rw [hlt,if_neg h0] at hΦ;simp (maxSteps:=10^6)+contextual(disch:=try exact dqd)only[evg1,simprocAttr,Ca,Bo,Cb,ga4,ht,ha,hc,o5,hs,d1,Gq,xfs,puQ,ga1,ga5,ovQ];refine Ef (P:=prog) (fun x st=>st.T.length=70/\(lessL qF b a row=(x.2.2.1++(lessL qF b x.2.2.2.1 x.2.2.2.2.1).1,x.2.2.2.2.2 || (lessL qF b x.2.2.2.1 x.2.2.2.2.1).2))/\(x.2.2.1.length+x.2.2.2.1.length=W)/\(x.2.2.2.1.length=x.2.2.2.2.1.length)/\(∃ pr,row=pr++x.2.2.2.2.1/\pr.length=x.2.2.1.length)/\(x.1.length=S.length)/\(entAt x.1 ia ea=some (flat ga0 (x.2.2.1++x.2.2.2.1)))/\(FAq x.1 iq eq (fl || x.2.2.2.2.2))/\(∀ j,j≠ia->j≠iq->nth x.1 j=nth S j)/\(okL qF x.2.2.2.1)/\(okL qF x.2.2.2.2.1)/\getT st.T 0=.ref it et 0/\getT st.T 1=.sref ia ea 0 W ua2/\getT st.T 2=.sref ij ej 0 W ua2/\getT st.T 8=.ref S.length (k+ua3) 0/\getT st.T 27=.int (W:Nat)/\getT st.T 28=.int (x.2.2.1.length:Nat)/\st.S=x.1++[⟨k+ua3,ga0 b⟩]/\st.tk=tk/\st.n=x.2.1) (fun x=>x.2.2.2.2.1.length) (S,(k+ua3+1),([]:List Q),a,row,false) ?_ ?_;case refine_2=>exact ⟨rfl,by simp,aZ,la.trans lr.symm,⟨[],rfl,rfl⟩,rfl,ha,by rw [F5]; exact hq,fun j _ _=>rfl,oa,orr,rfl,rfl,rfl,rfl,rfl,rfl,rfl,rfl,rfl⟩
 rintro ⟨S1,n1,p,u,rs,fp⟩ ⟨T,S',tk',n'⟩ ⟨hl,hR,hW,hu,bj,ci,he,hf,hj,ou,ors,e0,e1,e2,e8,e27,e28,eS,eT,eN⟩ IH;simp only at hR hW hu bj ci he hf hj ou ors e0 e1 e2 e8 e27 e28 eS eT eN;subst eS eT eN;obtain ⟨g,hg,hT⟩:=Ap hl;rw [hg] at e0 e1 e2 e8 e27 e28;subst hT;clear hg hl;by_cases cj:p.length<W
 ·have c1:decide ((p.length:Int)<(W:Int))=true:=cC
  obtain ⟨a0,u,rfl⟩:∃ a0 u',u=a0 :: u':=by
   cases u with
   | nil=>simp at hW; omega
   | cons x u=>exact ⟨x,u,rfl⟩
  obtain ⟨r0,rs,rfl⟩:∃ r0 rs',rs=r0 :: rs':=by
   cases rs with
   | nil=>simp at hu
   | cons x u=>exact ⟨x,u,rfl⟩
  obtain ⟨pr,jg,p7⟩:=bj;have oa0:=ou a0 (by simp);have or0:=ors r0 (by simp);have we:nth row p.length=some r0:=by rw [jg,<- p7]; exact Eg
  have cg:=Au ga1 we;have qe:=Au (ce:=ga0) ga1 (Eg (p:=p) (u:=u) (x:=a0));obtain ⟨E,hE⟩:∃ E:Ent,E=⟨k+ua3,ga0 b⟩:=⟨_,rfl⟩;have hbT:entAt (S1++[E]) S.length (k+ua3)=some (ga0 b):=by rw [hE]; exact An ci
  rw [<- hE];have dv:entAt S1 it et=some (.ifc ua0 (rcvQ iq eq) :: rest):=by rw [Ac (hj it ne2.symm ne4.symm)]; exact ht
  have bz:entAt S1 ij ej=some (flat ga0 row):=by rw [Ac (hj ij ne1.symm ne5.symm)]; exact hr
  have htT:entAt (S1++[E]) it et=some (.ifc ua0 (rcvQ iq eq) :: rest):=Ad dv;have hrT:entAt (S1++[E]) ij ej=some (flat ga0 row):=Ad bz;have heT:entAt (S1++[E]) ia ea=some (flat ga0 (p++a0 :: u)):=Ad he;have hfT:=hf.app (L:=[E]);have du:=Aer (S1++[E]) tk' n' iq eq (fl || fp) r0 or0 hfT;have b6:=A7 he;have wg:rs.length<(r0 :: rs).length:=by simp
  have hw:B8.wrap ((p.length:Int)+1)=(((p++[a0]).length:Nat):Int):=bQ
  by_cases hz:sgn r0=0
  ·have c2:(sgn r0 != 0)=false:=cW
   simp (maxSteps:=10^6)+contextual(disch:=try exact dqd)only[evg1,simprocAttr,Ca,Bo,Cb,ga4,e0,e1,e2,e8,e27,e28,c1,c2,hw,htT,hrT,cg,cj,du,Gq,xfs,puQ];have ai:Kx qF b a0 r0=(a0,false):=by unfold Kx; rw [if_pos hz]
   exact IH (S1,n'+ua3,p++[a0],u,rs,fp) _ aF ⟨rfl,by rw [hR]; simp only [lessL,ai,C6,Co,Ct,Oe],by show (p++[a0]).length+u.length=W; simp only [Cn,Cj,Cv] at hW ⊢; omega,eQ,⟨pr++[r0],by rw [jg]; simp,by simp [p7]⟩,ci,gJ,hf,hj,fun q hq=>ou q bV,fun q hq=>ors q bV,aN,aN,aN,aN,aN,aN,by simp only [hE],rfl,rfl⟩
  ·have c2:(sgn r0 != 0)=true:=cW
   obtain ⟨x,hx⟩:∃ x,x=qF.times b r0:=⟨_,rfl⟩;obtain ⟨y,hy⟩:∃ y,y=qF.minus a0 x.1:=⟨_,rfl⟩;have tv:B8.wrap ((p.length:Int)+1)=(((p++[y.1]).length:Nat):Int):=bQ
   have ox:qF.ok x.1:=by rw [hx]; exact Du.times _ _ ob or0
   have oy:qF.ok y.1:=by rw [hy]; exact Du.minus _ _ oa0 ox
   have dm:=Ahg (S1++[E]) tk' (n'+ua3) iq eq (fl || fp) b r0 ob or0 hfT;have hg1:=E5 (c:=x.2) hfT;rw [<- hx] at dm;rw [H8 hf] at dm hg1;obtain ⟨S2,bl⟩:∃ S2,S2=flS S1 iq eq x.2:=⟨_,rfl⟩;rw [<- bl] at dm hg1;have cz:FAq S2 iq eq ((fl || fp) || x.2):=by rw [bl]; exact hf.fS
   have fw:=Nv (S2++[E]) tk' (n'+ua3+ua4) iq eq ((fl || fp) || x.2) a0 x.1 oa0 ox (cz.app (L:=[E]));have hg2:=E5 (c:=y.2) (cz.app (L:=[E]));rw [<- hy] at fw;rw [H8 cz] at fw hg2;obtain ⟨S3,cu⟩:∃ S3,S3=flS S2 iq eq y.2:=⟨_,rfl⟩;rw [<- cu] at fw hg2;have ed:FAq S3 iq eq (((fl || fp) || x.2) || y.2):=by rw [cu]; exact cz.fS
   have fd:S3.length=S.length:=by rw [cu,Br,bl,Br,ci]
   have cl:∀ j,j≠iq->nth S3 j=nth S1 j:=fun j hj=>by rw [cu,ga6 hj,bl,ga6 hj]
   have o8:entAt S3 ia ea=some (flat ga0 (p++a0 :: u)):=by rw [Ac (cl ia ne3)]; exact he
   have a1g:entAt (S3++[E]) ia ea=some (flat ga0 (p++a0 :: u)):=Ad o8;have ho:=Bn (ce:=ga0) ga1 (l:=p++a0 :: u) (k:=p.length) (q':=y.1) (by simp);rw [Gi] at ho;have hp3:=fun x=>Dq (L:=[E]) (x:=x) (A7 o8);have jz:∀ x,Ob (S1++[E]).length (put S3 ia x++[E])=put S3 ia x++[E]:=fun x=>Ff (by simp [Am,fd,ci]);simp (maxSteps:=10^6)+contextual(disch:=try exact dqd)only[evg1,simprocAttr,Ca,Bo,Cb,ga4,e0,e1,e2,e8,e27,e28,c1,c2,jz,tv,htT,hrT,heT,hbT,cg,qe,cj,du,dm,fw,hg1,hg2,a1g,ho,hp3,Gq,xfs,puQ,ga1,ga5,tkQ];have ai:Kx qF b a0 r0=(y.1,x.2 || y.2):=by unfold Kx; rw [if_neg hz,hy,hx]
   exact IH (put S3 ia ⟨ea,flat ga0 (p++y.1 :: u)⟩,n'+ua3+ua4+ua4,p++[y.1],u,rs,Cl fp (Cl x.2 y.2)) _ aF ⟨rfl,by rw [hR]; simp only [lessL,ai,C6,Co,Ct,Gr],by show (p++[y.1]).length+u.length=W; simp only [Cn,Cj,Cv] at hW ⊢; omega,eQ,⟨pr++[r0],by rw [jg]; simp,by simp [p7]⟩,Am.trans fd,by rw [Ah (A7 o8)]; simp,by have:=ed.put (x:=⟨ea,flat ga0 (p++y.1 :: u)⟩) ne3; simpa only [Gr] using this,fun j h1 h2=>by rw [Ae (I8 h1),cl j h2]; exact hj j h1 h2,fun q hq=>ou q bV,fun q hq=>ors q bV,aN,aN,aN,aN,aN,aN,by simp only [hE],rfl,rfl⟩
 ·have c1:decide ((p.length:Int)<(W:Int))=false:=cC
  have xr:u=[]:=C5.1 aA;subst xr;simp (maxSteps:=10^6)+contextual(disch:=try exact dqd)only[evg1,simprocAttr,Ca,Bo,Cb,ga4,e0,e1,e2,e8,e27,e28,c1];rw [hΦ,Ky ci];simp only [lessL] at hR;rw [hR];exact ⟨S1,n',rfl,ci,he,by rw [F5]; exact hf,hj⟩):p:=h
namespace QQ
theorem Awr:Ax0:=Ma0
end QQ
end
end
section
open Go
open Go.Proofs.YthelkgdmgihhiaaGreat renaming ceQ->ga0
set_option maxRecDepth 100000
namespace QQ
structure Bf (S:List Ent) (iq eq:Nat) (I:TI) (t:Tb) (c:Cap):Prop where
 top:entAt S I.it I.et=some [.ifc 118 (rcvQ iq eq),intA t.vars,intA t.real,de I.ir I.er 1 t.rows.length,.sref I.ic I.ec 0 t.cost.length 2,de I.ib I.eb 1 t.rows.length,.frz (t.flip.map Di) c]
 nids:I.ids.length=t.rows.length
 rowsE:t.rows≠[]->entAt S I.ir I.er=some (I.ids.map (dp t.cost.length 2))
 rowE:∀ i p r,nth I.ids i=some p->nth t.rows i=some r->entAt S p.1 p.2=some (flat ceQ r)
 rowW:∀ r ∈ t.rows,r.length=t.cost.length
 costE:entAt S I.ic I.ec=some (flat ceQ t.cost)
 basisE:t.rows≠[]->entAt S I.ib I.eb=some (t.basis.map intA)
 nb:t.basis.length=t.rows.length
 nf:t.flip.length=t.rows.length
 fa:FAq S iq eq t.fl
 ap:Apart I iq
 okr:∀ r ∈ t.rows,okL qF r
 okc:okL qF t.cost
 bigW:t.cost.length<=1000000
 bigM:t.rows.length<=1000000
 real:t.real<t.cost.length
 bB:∀ b ∈ t.basis,b<t.cost.length
end QQ
section
variable {S S':List Ent} {iq eq:Nat} {I:TI} {t:Tb} {c:Cap}
abbrev Ax1 (p:Prop:=by exact ∀ {S S':List Ent}{iq eq:Nat}{I:TI}{t:Tb}{c:Cap}(h:Bf S iq eq I t c){i:Nat}{p:Nat × Nat}{r0 r':List Q}{fl':Bool}(hp:nth I.ids i=some p)(hr:nth t.rows i=some r0)(hl:r'.length=t.cost.length)(ho:okL qF r')(hS:∀ j,j≠p.1->j≠iq->nth S' j=nth S j)(he:entAt S' p.1 p.2=some (flat ga0 r'))(hf:FAq S' iq eq fl'),Bf S' iq eq I { t with rows:=put t.rows i r',fl:=fl' } c):=p
theorem Ma1 {p:Prop} (h:p:=by
 intro h i p r0 r' fl' hp hr hl ho hS he hf;have b6:i<t.rows.length:=Bl hr;have kv:=h.ap.row p (Aj hp);have key:∀ j e,j≠p.1->j≠iq->entAt S' j e=entAt S j e:=fun j e h1 h2=>Ac (hS j h1 h2);have hne:put t.rows i r'≠[]->t.rows≠[]:=fun hn h0=>hn (Anh.2 h0);refine ⟨?_,by rw [Ak]; exact h.nids,fun hn=>?_,fun j q r hq ae=>?_,fun r ae=>?_,?_,fun hn=>?_,Za60,by rw [Ak]; exact h.nf,hf,h.ap,fun r ae=>?_,h.okc,h.bigW,by rw [Ak]; exact h.bigM,h.real,h.bB⟩
 ·rw [key _ _ kv.1.symm h.ap.qt.symm,Ak]; exact h.top
 ·rw [key _ _ kv.2.1.symm h.ap.qr.symm]; exact h.rowsE (hne hn)
 ·rw [Kp b6] at ae;by_cases e:j=i
  ·exact Ya1w
  ·rw [if_neg e] at ae;have hq2:=h.ap.row q (Aj hq);rw [key _ _ (h.ap.rows j i q p hq hp e) hq2.2.2.2.2];exact Ya2r
 ·exact Ya24
 ·rw [key _ _ kv.2.2.1.symm h.ap.qc.symm]; exact h.costE
 ·rw [key _ _ kv.2.2.2.1.symm h.ap.qb.symm]; exact h.basisE (hne hn)
 ·rcases Bx ae with rfl|ae
  ·exact ho
  ·exact h.okr r ae):p:=h
namespace QQ
theorem Bf.row:Ax1:=fun {S S' iq eq I t c}=>Ma1
end QQ
abbrev Ax2 (p:Prop:=by exact ∀ {S S':List Ent}{iq eq:Nat}{I:TI}{t:Tb}{c:Cap}(h:Bf S iq eq I t c){k':List Q}{fl':Bool}(hl:k'.length=t.cost.length)(ho:okL qF k')(hS:∀ j,j≠I.ic->j≠iq->nth S' j=nth S j)(he:entAt S' I.ic I.ec=some (flat ga0 k'))(hf:FAq S' iq eq fl'),Bf S' iq eq I { t with cost:=k',fl:=fl' } c):=p
theorem Ma2 {p:Prop} (h:p:=by
 intro h k' fl' hl ho hS he hf;have key:∀ j e,j≠I.ic->j≠iq->entAt S' j e=entAt S j e:=fun j e h1 h2=>Ac (hS j h1 h2);refine ⟨?_,h.nids,fun hn=>?_,fun j q r hq ae=>?_,fun r ae=>by rw [hl]; exact h.rowW r ae,he,fun hn=>?_,h.nb,h.nf,hf,h.ap,h.okr,ho,by rw [hl]; exact h.bigW,h.bigM,by rw [hl]; exact h.real,fun b hb=>by rw [hl]; exact h.bB b hb⟩
 ·rw [key _ _ h.ap.tc h.ap.qt.symm,hl]; exact h.top
 ·rw [key _ _ h.ap.rc h.ap.qr.symm,hl]; exact h.rowsE hn
 ·have hq2:=h.ap.row q (Aj hq);rw [key _ _ hq2.2.2.1 hq2.2.2.2.2];exact Ya2r
 ·rw [key _ _ h.ap.cb.symm h.ap.qb.symm]; exact h.basisE hn):p:=h
namespace QQ
theorem Bf.setCost:Ax2:=fun {S S' iq eq I t c}=>Ma2
end QQ
abbrev Ax3 (p:Prop:=by exact ∀ {S:List Ent}{iq eq:Nat}{I:TI}{t:Tb}{c:Cap}(h:Bf S iq eq I t c){i b:Nat}(ek:t.rows≠[])(hb:b<t.cost.length),Bf (put S I.ib ⟨I.eb,(put t.basis i b).map intA⟩) iq eq I { t with basis:=put t.basis i b } c):=p
theorem Ma3 {p:Prop} (h:p:=by
 intro h i b ek hb;have b6:=A7 (h.basisE ek);have key:∀ j e,j≠I.ib->entAt (put S I.ib ⟨I.eb,(put t.basis i b).map intA⟩) j e=entAt S j e:=fun j e h1=>Ai (I8 h1);refine ⟨?_,h.nids,fun hn=>?_,fun j q r hq ae=>?_,h.rowW,?_,fun hn=>Ah b6,Za60,h.nf,h.fa.put h.ap.qb.symm,h.ap,h.okr,h.okc,h.bigW,h.bigM,h.real,fun x hx=>?_⟩
 ·rw [key _ _ h.ap.tb]; exact h.top
 ·rw [key _ _ h.ap.rb]; exact h.rowsE hn
 ·have hq2:=h.ap.row q (Aj hq);rw [key _ _ hq2.2.2.2.1];exact Ya2r
 ·rw [key _ _ h.ap.cb]; exact h.costE
 ·rcases Bx hx with rfl|hx
  ·exact hb
  ·exact h.bB x hx):p:=h
namespace QQ
theorem Bf.setBasis:Ax3:=fun {S iq eq I t c}=>Ma3
end QQ
abbrev Ax4 (p:Prop:=by exact ∀ {S S':List Ent}{iq eq:Nat}{I:TI}{t:Tb}{c:Cap}(h:Bf S iq eq I t c){fl':Bool}(hS:∀ j,j≠iq->nth S' j=nth S j)(hf:FAq S' iq eq fl'),Bf S' iq eq I { t with fl:=fl' } c):=p
theorem Ma4 {p:Prop} (h:p:=by
 intro h fl' hS hf;have key:∀ j e,j≠iq->entAt S' j e=entAt S j e:=fun j e h1=>Ac (hS j h1);refine ⟨?_,h.nids,fun hn=>?_,fun j q r hq ae=>?_,h.rowW,?_,fun hn=>?_,h.nb,h.nf,hf,h.ap,h.okr,h.okc,h.bigW,h.bigM,h.real,h.bB⟩
 ·rw [key _ _ h.ap.qt.symm]; exact h.top
 ·rw [key _ _ h.ap.qr.symm]; exact h.rowsE hn
 ·have hq2:=h.ap.row q (Aj hq);rw [key _ _ hq2.2.2.2.2];exact Ya2r
 ·rw [key _ _ h.ap.qc.symm]; exact h.costE
 ·rw [key _ _ h.ap.qb.symm]; exact h.basisE hn):p:=h
namespace QQ
theorem Bf.flag:Ax4:=fun {S S' iq eq I t c}=>Ma4
end QQ
abbrev Ax5 (p:Prop:=by exact ∀ {S:List Ent}{iq eq:Nat}{I:TI}{t:Tb}{c:Cap}(h:Bf S iq eq I t c)(L:List Ent),Bf (S++L) iq eq I t c):=p
theorem Ma5 {p:Prop} (h:p:=by
 intro h L;exact ⟨Ad h.top,h.nids,fun hn=>Ad (h.rowsE hn),fun j q r hq hr=>Ad (h.rowE j q r hq hr),h.rowW,Ad h.costE,fun hn=>Ad (h.basisE hn),h.nb,h.nf,h.fa.app,h.ap,h.okr,h.okc,h.bigW,h.bigM,h.real,h.bB⟩):p:=h
namespace QQ
theorem Bf.app:Ax5:=fun {S iq eq I t c}=>Ma5
structure LowQ (I:TI) (iq n:Nat) (t:Tb):Prop where
 it:I.it<n
 ic:I.ic<n
 ir:t.rows≠[]->I.ir<n
 ib:t.rows≠[]->I.ib<n
 row:∀ p ∈ I.ids,p.1<n
 iq:iq<n
theorem Bf.low (h:Bf S iq eq I t c):LowQ I iq S.length t:=by
 refine ⟨A7 h.top,A7 h.costE,fun hn=>A7 (h.rowsE hn),fun hn=>A7 (h.basisE hn),fun p hp=>?_,A7 h.fa⟩;exact Yau
end QQ
abbrev Ax6 (p:Prop:=by exact ∀ {S:List Ent}{iq eq:Nat}{I:TI}{t:Tb}{c:Cap}(h:Bf S iq eq I t c){n:Nat}(hl:LowQ I iq n t),Bf (S.take n) iq eq I t c):=p
theorem Ma6 {p:Prop} (h:p:=by
 intro h n hl;refine ⟨by rw [Ej hl.it]; exact h.top,h.nids,fun hn=>by rw [Ej (hl.ir hn)]; exact h.rowsE hn,fun j q r hq hr=>by rw [Ej (hl.row q (Aj hq))]; exact h.rowE j q r hq hr,h.rowW,by rw [Ej hl.ic]; exact h.costE,fun hn=>by rw [Ej (hl.ib hn)]; exact h.basisE hn,h.nb,h.nf,h.fa.take hl.iq,h.ap,h.okr,h.okc,h.bigW,h.bigM,h.real,h.bB⟩):p:=h
namespace QQ
theorem Bf.take:Ax6:=fun {S iq eq I t c}=>Ma6
theorem LowQ.of {n:Nat} {t':Tb} (h:LowQ I iq n t) (hn:t'.rows≠[]->t.rows≠[]):LowQ I iq n t':=⟨h.it,h.ic,fun h'=>h.ir (hn h'),fun h'=>h.ib (hn h'),h.row,h.iq⟩
end QQ
abbrev Ax7 (p:Prop:=by exact ∀ {S S':List Ent}{iq eq:Nat}{I:TI}{t:Tb}{c:Cap}(h:Bf S iq eq I t c){n:Nat}{fl':Bool}(hl:LowQ I iq n t)(hS:∀ j,j<n->j≠iq->nth S' j=nth S j)(hf:FAq S' iq eq fl'),Bf S' iq eq I { t with fl:=fl' } c):=p
theorem Ma7 {p:Prop} (h:p:=by
 intro h n fl' hl hS hf;have key:∀ j e,j<n->j≠iq->entAt S' j e=entAt S j e:=fun j e h1 h2=>Ac (hS j h1 h2);refine ⟨?_,h.nids,fun hn=>?_,fun j q r hq ae=>?_,h.rowW,?_,fun hn=>?_,h.nb,h.nf,hf,h.ap,h.okr,h.okc,h.bigW,h.bigM,h.real,h.bB⟩
 ·rw [key _ _ hl.it h.ap.qt.symm]; exact h.top
 ·rw [key _ _ (hl.ir hn) h.ap.qr.symm]; exact h.rowsE hn
 ·have hq2:=h.ap.row q (Aj hq);rw [key _ _ (hl.row q (Aj hq)) hq2.2.2.2.2];exact Ya2r
 ·rw [key _ _ hl.ic h.ap.qc.symm]; exact h.costE
 ·rw [key _ _ (hl.ib hn) h.ap.qb.symm]; exact h.basisE hn):p:=h
namespace QQ
theorem Bf.frame:Ax7:=fun {S S' iq eq I t c}=>Ma7
end QQ
def OutQ (I:TI) (iq j:Nat):Prop:=j≠iq/\j≠I.ic/\j≠I.ib/\∀ p ∈ I.ids,j≠p.1
namespace QQ
def Aai (S:List Ent) (tk:List Nat) (iq eq:Nat) (I:TI) (t':Tb) (cc:Cap) (v:AV) (r:Rs):Prop :=
 ∃ S' k',r=(v,S',tk,k')/\S'.length=S.length/\Bf S' iq eq I t' cc/\∀ j,OutQ I iq j->nth S' j=nth S j
end QQ
end
end
section
open Go Tryz
open Go.Proofs.Tryz renaming func144->ga7,ntmps144->ga8,results144->ga9
open Go.Proofs.YthelkgdmgihhiaaGreat renaming ceQ->ga0,A3->ga1,B4->ga5,Bb->ga6
set_option maxRecDepth 100000
namespace QQ
abbrev ua5:Nat:=144
end QQ
set_option maxHeartbeats 8000000
set_option maxRecDepth 100000
theorem Afu {F:Fld} (hF:F.Keeps) {b:Q} (hb:F.ok b):∀ {l:List Q},okL F l->okL F (divL F b l).1
 | [],h=>h
 | x :: l,h=>by
  intro q hq;simp only [divL,C4] at hq;rcases hq with rfl|hq
  ·unfold dvS;split
   ·exact h _ (by simp)
   ·exact hF.over _ _ (h _ (by simp)) hb
  ·exact Afu hF hb (fun q hq=>h q bV) q hq
theorem Ro {F:Fld} {l m:List Q} {c:Nat} : (lessT F l m c).1.length=l.length:=by
 unfold lessT;split
 ·split
  ·rfl
  ·exact Qg
 ·rfl
theorem Ab0 {F:Fld} (hF:F.Keeps) {l m:List Q} {c:Nat} (h:okL F l) (h':okL F m):okL F (lessT F l m c).1:=by
 unfold lessT;split
 ·rename_i b hb;split
  ·exact h
  ·exact Y4 hF (h b (Aj hb)) h h'
 ·exact h
section
variable (S:List Ent) (tk:List Nat) (k iq eq:Nat)
abbrev Ax8 (p:Prop:=by exact ∀ (S:List Ent)(tk:List Nat)(k iq eq:Nat)(I:TI)(t:Tb)(cc:Cap)(i c:Nat)(aj:Bf S iq eq I t cc)(hi:i<t.rows.length)(hc:c<t.cost.length),∃ r,cL prog ua5 [.ref I.it I.et 0,.int i,.int c] S tk k=some r/\Aai S tk iq eq I (Eo qF t i c) cc (.tup []) r):=p
theorem Ma8 {p:Prop} (h:p:=by
 intro S tk k iq eq I t cc i c aj hi hc;obtain ⟨Φ,hΦ⟩:∃ Φ,Φ=Aai S tk iq eq I (Eo qF t i c) cc (.tup []):=⟨_,rfl⟩;rw [<- hΦ];obtain ⟨row,bj⟩:=Ab hi;obtain ⟨pi,i7⟩:=Ab (show i<I.ids.length by rw [aj.nids]; exact hi);have i6:=aj.rowW row (Aj bj);have lj:=aj.okr row (Aj bj);obtain ⟨b,hb⟩:=Ab (show c<row.length by omega);have ob:qF.ok b:=lj b (Aj hb);have ek:t.rows≠[]:=fun h=>by rw [h] at hi; simp at hi
 have dc:0<t.rows.length:=aA
 have ag:=aj.top;rw [Bu dc,Bu dc] at ag;have jp:=aj.rowsE ek;have om:nth (Se i (I.ids.map (dp t.cost.length ua2))) 0=some (.sref pi.1 pi.2 0 t.cost.length ua2):=Db (by rw [Af] at i7 ⊢; rw [Fe,i7]; rfl);have o5:=Au (ce:=ga0) ga1 hb;have cq:=aj.rowE i pi row i7 bj;refine opG ga7 ga8 ?_;simp (maxSteps:=10^6)+contextual(disch:=try exact dqd)only[evg1,simprocAttr,Ca,Bo,Cb,ga9,ag,jp,om,o5,cq,hi,hc,Cw,intA,ga1,ga5,ovQ];have hW:=aj.bigW;have hM:=aj.bigM;have bc:=aj.low;have eh:=bc.row pi (Aj i7);have kv:=aj.ap.row pi (Aj i7);have qy:=V0 bj;have eT:({ t with rows:=t.rows,fl:=t.fl } : Tb)=t:=rfl;refine Ef (P:=prog) (fun x st=>st.T.length=89/\(divL qF b row=(x.2.2.1++(divL qF b x.2.2.2.1).1,Cl x.2.2.2.2 (divL qF b x.2.2.2.1).2))/\(x.2.2.1.length+x.2.2.2.1.length=t.cost.length)/\(Bf x.1 iq eq I { t with rows:=put t.rows i (x.2.2.1++x.2.2.2.1),fl:=Cl t.fl x.2.2.2.2 } cc)/\(entAt x.1 S.length k=some (ga0 b))/\(x.1.length=S.length+1)/\(∀ j,j<S.length->OutQ I iq j->nth x.1 j=nth S j)/\(okL qF x.2.2.2.1)/\getT st.T 0=.ref I.it I.et 0/\getT st.T 1=.int (i:Nat)/\getT st.T 2=.int (c:Nat)/\getT st.T 6=.sref pi.1 pi.2 0 t.cost.length ua2/\getT st.T 7=.ref S.length k 0/\getT st.T 23=.int (t.cost.length:Nat)/\getT st.T 24=.int (x.2.2.1.length:Nat)/\st.S=x.1/\st.tk=tk/\st.n=x.2.1) (fun x=>x.2.2.2.1.length) ((S++[⟨k,ga0 b⟩]),(k+1),([]:List Q),row,false) ?_ ?_;case refine_2=>exact ⟨rfl,by simp,by simpa using i6,by simp only [Ct,qy,F5]; exact aj.app _,An rfl,by simp,fun j hj _=>Bj hj,lj,rfl,rfl,rfl,rfl,rfl,rfl,rfl,rfl,rfl,rfl⟩
 rintro ⟨SS,n1,p,u,fp⟩ ⟨T,S',tk',n'⟩ ⟨hl,hR,jv,hT,xa,ei,aw,ou,e0,e1,e2,e6,e7,e23,e24,eS,eT,eN⟩ IH;simp only at hR jv hT xa ei aw ou e0 e1 e2 e6 e7 e23 e24 eS eT eN;subst eS eT eN;obtain ⟨g,hg,hT⟩:=Ap hl;rw [hg] at e0 e1 e2 e6 e7 e23 e24;subst hT;clear hg hl;by_cases cj:p.length<t.cost.length
 ·have c1:decide ((p.length:Int)<(t.cost.length:Int))=true:=cC
  obtain ⟨a0,u,rfl⟩:∃ a0 u',u=a0 :: u':=by
   exact Ya41
  have oa0:=ou a0 (by simp);have qe:=Au (ce:=ga0) ga1 (Eg (p:=p) (u:=u) (x:=a0));have we:nth (put t.rows i (p++a0 :: u)) i=some (p++a0 :: u):=Dm hi;have he:=hT.rowE i pi _ i7 we;have dv:=hT.top;have hs:=Aer S' tk' n' iq eq (Cl t.fl fp) a0 oa0 hT.fa;have wg:u.length<(a0 :: u).length:=by simp
  have hw:B8.wrap ((p.length:Int)+1)=(((p++[a0]).length:Nat):Int):=bQ
  by_cases hz:sgn a0=0
  ·have c2:(sgn a0 != 0)=false:=cW
   have ai:dvS qF b a0=(a0,false):=by unfold dvS; rw [if_pos hz]
   simp (maxSteps:=10^6)+contextual(disch:=try exact dqd)only[evg1,simprocAttr,Ca,Bo,Cb,ga9,e0,e1,e2,e6,e7,e23,e24,c1,c2,hw,dv,he,qe,cj,hs,Gq,xfs,puQ,tkQ];exact IH (S',n'+ua3,p++[a0],u,fp) _ aF ⟨rfl,by rw [hR]; simp only [divL,ai,C6,Co,Ct,Oe],by show (p++[a0]).length+u.length=t.cost.length; simp only [Cn,Cj,Cv] at jv ⊢; omega,by simpa using hT,xa,ei,aw,fun q hq=>ou q bV,aU⟩
  ·have c2:(sgn a0 != 0)=true:=cW
   obtain ⟨y,hy⟩:∃ y,y=qF.over a0 b:=⟨_,rfl⟩;have oy:qF.ok y.1:=by rw [hy]; exact Du.over _ _ oa0 ob
   have ai:dvS qF b a0=y:=by unfold dvS; rw [if_neg hz,hy]
   have tv:B8.wrap ((p.length:Int)+1)=(((p++[y.1]).length:Nat):Int):=bQ
   have dm:=Awy S' tk' (n'+ua3) iq eq (Cl t.fl fp) a0 b oa0 ob hT.fa;have hg1:=E5 (c:=y.2) hT.fa;rw [<- hy] at dm;obtain ⟨S2,bl⟩:∃ S2,S2=flS S' iq eq y.2:=⟨_,rfl⟩;rw [<- bl] at dm hg1;have cz:FAq S2 iq eq (Cl (Cl t.fl fp) y.2):=by rw [bl]; exact hT.fa.fS
   have hl2:S2.length=S'.length:=by rw [bl,Br]
   have bm:∀ j,j≠iq->nth S2 j=nth S' j:=fun j hj=>by rw [bl,ga6 hj]
   have kw:nth S2 S.length=nth S' S.length:=Za6r
   have he2:entAt S2 pi.1 pi.2=some (flat ga0 (p++a0 :: u)):=by rw [Ac (bm _ kv.2.2.2.2)]; exact he
   have ho:=Bn (ce:=ga0) ga1 (l:=p++a0 :: u) (k:=p.length) (q':=y.1) (by simp);rw [Gi] at ho;have jz:∀ x,Ob S'.length (put S2 pi.1 x)=put S2 pi.1 x:=fun x=>Ff (by simp [Am,hl2]);simp (maxSteps:=10^6)+contextual(disch:=try exact dqd)only[evg1,simprocAttr,Ca,Bo,Cb,ga9,e0,e1,e2,e6,e7,e23,e24,c1,c2,tv,jz,dv,he,qe,xa,cj,hs,dm,hg1,he2,ho,Gq,xfs,puQ,ga1,ga5,tkQ];have kx:Cl t.fl (Cl fp y.2)=Cl (Cl t.fl fp) y.2:=(Gr _ _ _).symm;have c8:=hT.row (S':=put S2 pi.1 ⟨pi.2,flat ga0 (p++y.1 :: u)⟩) (r':=p++y.1 :: u) (fl':=Cl (Cl t.fl fp) y.2) i7 we Za20 (fun q hq=>by
    rcases Cu.1 hq with h|h
    ·exact hT.okr _ (Aj we) q cF
    ·rcases C4.1 h with rfl|h
     ·exact oy
     ·exact ou q cF) (fun j h1 h2=>by rw [Ae (I8 h1),bm j h2]) (Ah (A7 he2)) (cz.put kv.2.2.2.2)
   simp only [Mi] at c8;exact IH (put S2 pi.1 ⟨pi.2,flat ga0 (p++y.1 :: u)⟩,n'+ua3+Abs b,p++[y.1],u,Cl fp y.2) _ aF ⟨rfl,by rw [hR]; simp only [divL,ai,C6,Co,Ct,Gr],by show (p++[y.1]).length+u.length=t.cost.length; simp only [Cn,Cj,Cv] at jv ⊢; omega,by simp only [C6,Co,Ct,kx]; exact c8,by rw [Ai aE,Ac kw]; exact xa,by rw [Am,hl2]; exact ei,fun j h1 h2=>by rw [Ae (I8 (h2.2.2.2 pi (Aj i7))),bm j h2.1]; exact aw j h1 h2,fun q hq=>ou q bV,aU⟩
 ·have c1:decide ((p.length:Int)<(t.cost.length:Int))=false:=cC
  have xr:u=[]:=C5.1 aA;subst xr;simp only [divL] at hR;simp only [Fj,Cv,Ie,F5] at hR jv hT;have y5:Eo qF t i c={ t with rows:=(lessRows qF p c i 0 (put t.rows i p)).1,cost:=(lessT qF t.cost p c).1,basis:=put t.basis i c,fl:=Cl (Cl (Cl t.fl fp) (lessRows qF p c i 0 (put t.rows i p)).2) (lessT qF t.cost p c).2 }:=by
   unfold Eo Bk;rw [A0 bj,A0 hb,hR]
  have op:okL qF p:=by have:=Afu Du ob lj; rw [hR] at this; exact this
  have jh:=hT.top;simp only [Ak] at jh;rw [Bu dc,Bu dc] at jh;simp (maxSteps:=10^6)+contextual(disch:=try exact dqd)only[evg1,simprocAttr,Ca,Bo,Cb,ga9,e0,e1,e2,e6,e7,e23,e24,c1,jh];refine Ef (P:=prog) (fun x st=>st.T.length=89/\(lessRows qF p c i 0 (put t.rows i p)=(x.2.2.1++(lessRows qF p c i x.2.2.1.length x.2.2.2.1).1,Cl x.2.2.2.2 (lessRows qF p c i x.2.2.1.length x.2.2.2.1).2))/\(x.2.2.1.length+x.2.2.2.1.length=t.rows.length)/\(Bf x.1 iq eq I { t with rows:=x.2.2.1++x.2.2.2.1,fl:=Cl (Cl t.fl fp) x.2.2.2.2 } cc)/\(nth (x.2.2.1++x.2.2.2.1) i=some p)/\(x.1.length=S.length+1)/\(∀ j,j<S.length->OutQ I iq j->nth x.1 j=nth S j)/\getT st.T 0=.ref I.it I.et 0/\getT st.T 1=.int (i:Nat)/\getT st.T 2=.int (c:Nat)/\getT st.T 6=.sref pi.1 pi.2 0 t.cost.length ua2/\getT st.T 58=.sref I.ir I.er 0 t.rows.length 1/\getT st.T 59=.int (t.rows.length:Nat)/\getT st.T 60=.int (x.2.2.1.length:Nat)/\st.S=x.1/\st.tk=tk'/\st.n=x.2.1) (fun x=>x.2.2.2.1.length) (S',n',([]:List (List Q)),(put t.rows i p),false) ?_ ?_;case refine_2=>exact ⟨rfl,by simp,by simp [Ak],by simp only [Ct,F5]; exact hT,Za45,ei,aw,rfl,rfl,rfl,rfl,rfl,rfl,rfl,rfl,rfl,rfl⟩
  rintro ⟨SS,n1,P,U,fq⟩ ⟨T,S',tk',n'⟩ ⟨hl,fi,dq,ah,cd,o9,i8,e0,e1,e2,e6,e58,e59,e60,eS,eT,eN⟩ IH;simp only at fi dq ah cd o9 i8 e0 e1 e2 e6 e58 e59 e60 eS eT eN;subst eS eT eN;obtain ⟨g,hg,hT⟩:=Ap hl;rw [hg] at e0 e1 e2 e6 e58 e59 e60;subst hT;clear hg hl;by_cases bp:P.length<t.rows.length
  ·have c2:decide ((P.length:Int)<(t.rows.length:Int))=true:=cD
   obtain ⟨r0,U,rfl⟩:∃ r0 U',U=r0 :: U':=by
    exact Ya42
   have wg:U.length<(r0 :: U).length:=by simp
   obtain ⟨pk,gh⟩:=Ab (show P.length<I.ids.length by rw [aj.nids]; exact bp);have ck:nth (Se P.length (I.ids.map (dp t.cost.length ua2))) 0=some (.sref pk.1 pk.2 0 t.cost.length ua2):=Db (by rw [Af] at gh ⊢; rw [Fe,gh]; rfl);have iv:nth (P++r0 :: U) P.length=some r0:=Eg;have yu:P++r0 :: U≠[]:=by simp
   have pe:=ah.rowsE yu;have hw2:∀ z:List Q,B8.wrap ((P.length:Int)+1)=(((P++[z]).length:Nat):Int):=fun z=>bQ
   by_cases oi:P.length=i
   ·have c3:((P.length:Int) != (i:Int))=false:=by rw [oi]; simp
    have vv:lessK qF p c i P.length r0=(r0,false):=by unfold lessK; rw [if_pos oi]
    have hw3:=hw2 r0;simp (maxSteps:=10^6)+contextual(disch:=try exact dqd)only[evg1,simprocAttr,Ca,Bo,Cb,ga9,e0,e1,e2,e6,e58,e59,e60,c2,c3,pe,ck,bp,hw3,Cw];exact IH (S',n',P++[r0],U,fq) _ aF ⟨rfl,by rw [fi]; simp only [lessRows,vv,C6,Co,Ct,Oe,Cn,Cj,Cv,Fk],Za0i,by simpa using ah,by simpa using cd,o9,i8,aU⟩
   ·have c3:((P.length:Int) != (i:Int))=true:=aC
    have cn:=ah.rowE P.length pk r0 gh iv;have mo:=ah.rowE i pi p i7 cd;have dk:=ah.rowW r0 (Aj iv);have mj:=aj.ap.row pk (Aj gh);obtain ⟨r,bo,S3,k3,rfl,fd,o8,ed,cl⟩:=Awr S' tk' n' iq eq _ I.it I.et pk.1 pk.2 pi.1 pi.2 t.cost.length c _ r0 p ah.top ah.fa cn mo dk jv hc hW (ah.okr r0 (Aj iv)) op (aj.ap.rows _ _ pk pi gh i7 oi) mj.1 mj.2.2.2.2 aj.ap.qt kv.2.2.2.2.symm;have vv:lessK qF p c i P.length r0=lessT qF r0 p c:=by unfold lessK; rw [if_neg oi]
    obtain ⟨z,hz⟩:∃ z,z=lessT qF r0 p c:=⟨_,rfl⟩;rw [<- hz] at o8 ed vv;have hw3:=hw2 z.1;have jz:Ob S'.length S3=S3:=Ff aA;simp (maxSteps:=10^6)+contextual(disch:=try exact dqd)only[evg1,simprocAttr,Ca,Bo,Cb,ga9,e0,e1,e2,e6,e58,e59,e60,c2,c3,pe,ck,bp,hw3,bo,jz,Cw];have c8:=ah.row (S':=S3) (r':=z.1) (fl':=Cl (Cl (Cl t.fl fp) fq) z.2) gh iv (by rw [hz,Ro]; exact dk) (by rw [hz]; exact Ab0 Du (ah.okr r0 (Aj iv)) op) cl o8 ed;simp only [Gi] at c8;exact IH (S3,k3,P++[z.1],U,Cl fq z.2) _ aF ⟨rfl,by rw [fi]; simp only [lessRows,vv,C6,Co,Ct,Gr,Cn,Cj,Cv,Fk],by show (P++[z.1]).length+U.length=t.rows.length; simp only [Cn,Cj,Cv] at dq ⊢; omega,by simpa [Gr] using c8,Za0u,by rw [fd]; exact o9,fun j h1 h2=>by rw [cl j (h2.2.2.2 pk (Aj gh)) h2.1]; exact i8 j h1 h2,aU⟩
  ·have c2:decide ((P.length:Int)<(t.rows.length:Int))=false:=cD
   have tw:U=[]:=C5.1 aA;subst tw;simp only [lessRows] at fi;simp only [Fj,Cv,Ie,F5] at fi dq ah cd;have tx:P≠[]:=fun h=>by rw [h] at dq; simp at dq; omega
   have ev:=ah.top;simp only [dq] at ev;rw [Bu dc,Bu dc] at ev;have mo:=ah.rowE i pi p i7 cd;obtain ⟨r,bo,S3,k3,rfl,fd,o8,ed,cl⟩:=Awr S' tk' n' iq eq _ I.it I.et I.ic I.ec pi.1 pi.2 t.cost.length c _ t.cost p ah.top ah.fa ah.costE mo rfl jv hc hW aj.okc op kv.2.2.1.symm aj.ap.tc.symm aj.ap.qc.symm aj.ap.qt kv.2.2.2.2.symm;have c8:=ah.setCost (S':=S3) (k':=(lessT qF t.cost p c).1) Ro (Ab0 Du aj.okc op) cl o8 ed;have mq:=c8.top;simp only [dq] at mq;rw [Bu dc,Bu dc] at mq;have qg:=c8.basisE tx;obtain ⟨b0,hb0⟩:=Ab (show i<t.basis.length by rw [aj.nb]; exact hi);have c9:over (t.basis.map intA) i [.prim (.int .i64 (c:Int))]=some ((put t.basis i c).map intA):=by
    exact Ya2s
   have wh:=c8.setBasis (i:=i) (b:=c) tx (by simp only [Ro]; exact hc);simp (maxSteps:=10^6)+contextual(disch:=try exact dqd)only[evg1,simprocAttr,Ca,Bo,Cb,ga9,e0,e1,e2,e6,e58,e59,e60,c2,ev,bo,mq,qg,c9,hi,Cw];rw [hΦ,y5,fi];have y6:LowQ I iq S.length { t with rows:=P,cost:=(lessT qF t.cost p c).1,basis:=put t.basis i c,fl:=Cl (Cl (Cl t.fl fp) fq) (lessT qF t.cost p c).2 }:=bc.of fun _=>ek;exact ⟨_,_,rfl,by rw [Im,Am,fd]; omega,wh.take y6,fun j hj=>by
    by_cases jm:j<S.length
    ·rw [G6 jm,Ae (I8 hj.2.2.1),cl j hj.2.1 hj.1]; exact i8 j jm hj
    ·rw [Af,Af,C3 dO,C3 aA]⟩):p:=h
namespace QQ
theorem Aw1:Ax8:=Ma8
end QQ
end
end
section
open Go Tryz
open Go.Proofs.Tryz renaming func143->ga10,ntmps143->ga11,results143->ga12
open Go.Proofs.YthelkgdmgihhiaaGreat renaming ceQ->ga0,A3->ga1,B4->ga5,Bb->ga6
set_option maxRecDepth 100000
namespace QQ
abbrev ua6:Nat:=143
end QQ
set_option maxHeartbeats 8000000
set_option maxRecDepth 100000
def Py:Option (Nat × Q)->AV
 | none=>.int (-1)
 | some (i,_)=>.int (i:Nat)
theorem Na {F:Fld} {basis:List Nat} {c W m:Nat} : ∀ {l:List (List Q)} {k:Nat} {b:Option (Nat × Q)} {i:Nat} {q:Q} {f:Bool},k+l.length<=m->(∀ i q,b=some (i,q)->i<m)->B9 F basis c W k l b=(some (i,q),f)->i<m
 | [],k,b,i,q,f,_,hb,h=>by
  simp only [B9,Cf] at h;exact hb i q h.1
 | r :: l,k,b,i,q,f,hl,hb,h=>by
  simp only [Cj] at hl;unfold B9 at h;split at h
  ·exact Na aA hb h
  ·split at h
   ·simp only [Cf] at h;exact Na (k:=k+1) (l:=l) aA (fun i q e=>by simp only [Bg,Cf] at e; omega) (Prod.ext h.1 rfl)
   ·rename_i bi least;simp only [Cf] at h;refine Na (k:=k+1) (l:=l) aA (fun i' q' e=>?_) (Prod.ext h.1 rfl);split at e
    ·simp only [Bg,Cf] at e;exact hb i' least (by rw [e.1])
    ·simp only [Bg,Cf] at e; omega
theorem Amk {F:Fld} {t:Tb} {c i:Nat} {q:Q} {f:Bool} (h:Bw F t c=(some (i,q),f)):i<t.rows.length :=
 Na (k:=0) (by simp) (fun _ _ e=>by cases e) h
section
variable (S:List Ent) (tk:List Nat) (k iq eq:Nat)
abbrev Ax9 (p:Prop:=by exact ∀ (S:List Ent)(tk:List Nat)(k iq eq:Nat)(I:TI)(t:Tb)(cc:Cap)(c:Nat)(aj:Bf S iq eq I t cc)(hc:c<t.cost.length),∃ r,cL prog ua6 [.ref I.it I.et 0,.int c] S tk k=some r/\Aai S tk iq eq I { t with fl:=Cl t.fl (Bw qF t c).2 } cc (Py (Bw qF t c).1) r):=p
theorem Ma9 {p:Prop} (h:p:=by
 intro S tk k iq eq I t cc c aj hc;obtain ⟨Φ,hΦ⟩:∃ Φ,Φ=Aai S tk iq eq I { t with fl:=Cl t.fl (Bw qF t c).2 } cc (Py (Bw qF t c).1):=⟨_,rfl⟩;rw [<- hΦ];have ag:=aj.top;by_cases cg:t.rows=[]
 ·have bw:t.rows.length=0:=by rw [cg]; rfl
  rw [bw] at ag;simp only [de] at ag;have ji:Bw qF t c=(none,false):=by unfold Bw; rw [cg]; rfl
  refine opG ga10 ga11 ?_;have d0:decide ((0:Int)<((0:Nat):Int))=false:=rfl;simp (maxSteps:=10^6)+contextual(disch:=try exact dqd)only[evg1,simprocAttr,Ca,Bo,Cb,ga12,ag];refine Ef (P:=prog) (fun x st=>st.T.length=93/\getT st.T 5=.int (-1)/\getT st.T 15=.int ((0:Nat):Int)/\getT st.T 16=.int 0/\st.S=S++[⟨k,zeroQ⟩]/\st.tk=tk/\st.n=x) (fun x=>0) (k+1) ?_ ?_;case refine_2=>exact ⟨rfl,rfl,rfl,rfl,rfl,rfl,rfl⟩
  rintro n1 ⟨T,S',tk',n'⟩ ⟨hl,e5,e15,e16,eS,eT,eN⟩ IH;subst eS eT eN;obtain ⟨g,hg,hT⟩:=Ap hl;rw [hg] at e5 e15 e16;subst hT;clear hg hl;simp (maxSteps:=10^6)+contextual(disch:=try exact dqd)only[evg1,simprocAttr,Ca,Bo,Cb,ga12,e5,e15,e16,d0,Ji];rw [hΦ,ji];exact ⟨S,_,rfl,rfl,by simp only [F5]; exact aj,fun j _=>rfl⟩
 have dc:0<t.rows.length:=Ic.2 cg;rw [Bu dc,Bu dc] at ag;have jp:=aj.rowsE cg;have hW:=aj.bigW;have hM:=aj.bigM;have bc:=aj.low;have d7:=aj.real;refine opG ga10 ga11 ?_;simp (maxSteps:=10^6)+contextual(disch:=try exact dqd)only[evg1,simprocAttr,Ca,Bo,Cb,ga12,ag];refine Ef (P:=prog) (fun x st=>st.T.length=93/\(Bw qF t c=((B9 qF t.basis c t.cost.length x.2.2.1.length x.2.2.2.1 x.2.2.2.2.1).1,Cl x.2.2.2.2.2 (B9 qF t.basis c t.cost.length x.2.2.1.length x.2.2.2.1 x.2.2.2.2.1).2))/\(t.rows=x.2.2.1++x.2.2.2.1)/\(Bf x.1 iq eq I { t with fl:=Cl t.fl x.2.2.2.2.2 } cc)/\(∃ lc,entAt x.1 S.length k=some lc/\lc.length=ua2/\∀ bi q,x.2.2.2.2.1=some (bi,q)->lc=ga0 q/\bi<x.2.2.1.length/\qF.ok q)/\(x.1.length=S.length+1)/\(∀ j,j<S.length->OutQ I iq j->nth x.1 j=nth S j)/\getT st.T 0=.ref I.it I.et 0/\getT st.T 1=.int (c:Nat)/\getT st.T 5=Py x.2.2.2.2.1/\getT st.T 6=.ref S.length k 0/\getT st.T 14=.sref I.ir I.er 0 t.rows.length 1/\getT st.T 15=.int (t.rows.length:Nat)/\getT st.T 16=.int (x.2.2.1.length:Nat)/\st.S=x.1/\st.tk=tk/\st.n=x.2.1) (fun x=>x.2.2.2.1.length) ((S++[⟨k,zeroQ⟩]),(k+1),([]:List (List Q)),t.rows,(none:Option (Nat × Q)),false) ?_ ?_;case refine_2=>exact ⟨rfl,by simp [Bw],rfl,by simp only [F5]; exact aj.app _,⟨_,An rfl,rfl,fun _ _ h=>aV⟩,by simp,fun j hj _=>Bj hj,rfl,rfl,rfl,rfl,rfl,rfl,rfl,rfl,rfl,rfl⟩
 rintro ⟨SS,n1,P,U,bst,fq⟩ ⟨T,S',tk',n'⟩ ⟨hl,hR,dq,hT,lp,ei,aw,e0,e1,e5,e6,e14,e15,e16,eS,eT,eN⟩ IH;simp only at hR dq hT lp ei aw e0 e1 e5 e6 e14 e15 e16 eS eT eN;subst eS eT eN;obtain ⟨g,hg,hT⟩:=Ap hl;rw [hg] at e0 e1 e5 e6 e14 e15 e16;subst hT;clear hg hl;have rg:t.rows.length=P.length+U.length:=dY
 obtain ⟨lc,hlc,y7,hlb⟩:=lp;by_cases bp:P.length<t.rows.length
 ·have c1:decide ((P.length:Int)<(t.rows.length:Int))=true:=cD
  obtain ⟨r0,U,rfl⟩:∃ r0 U',U=r0 :: U':=by
   exact Ya1h
  have wg:U.length<(r0 :: U).length:=by simp
  obtain ⟨pk,gh⟩:=Ab (show P.length<I.ids.length by rw [aj.nids]; exact bp);have ck:nth (Se P.length (I.ids.map (dp t.cost.length ua2))) 0=some (.sref pk.1 pk.2 0 t.cost.length ua2):=Db (by rw [Af] at gh ⊢; rw [Fe,gh]; rfl);have iv:nth t.rows P.length=some r0:=by rw [dq]; exact Eg
  have dk:=aj.rowW r0 (Aj iv);have lj:=aj.okr r0 (Aj iv);have i9:=hT.rowsE cg;have cn:=hT.rowE P.length pk r0 gh iv;have dv:=hT.top;simp only at dv;rw [Bu dc,Bu dc] at dv;obtain ⟨x,hx⟩:=Ab (show c<r0.length by omega);obtain ⟨z,hz⟩:=Ab (show t.cost.length - 1<r0.length by omega);have ox:=lj x (Aj hx);have oz:=lj z (Aj hz);have fj:=Au (ce:=ga0) ga1 hx;have jj:=Au (ce:=ga0) ga1 hz;have hs:=Aer S' tk' n' iq eq (Cl t.fl fq) x ox hT.fa;have hw2:B8.wrap ((P.length:Int)+1)=(((P++[r0]).length:Nat):Int):=bQ
  have fm:t.rows=(P++[r0])++U:=dY
  have kg:(P++[r0]).length=P.length+1:=by simp
  by_cases ko:sgn x<=0
  ·have c2:decide (sgn x<=0)=true:=gV
   simp (maxSteps:=10^6)+contextual(disch:=try exact dqd)only[evg1,simprocAttr,Ca,Bo,Cb,ga12,e0,e1,e5,e6,e14,e15,e16,c1,c2,hw2,dv,i9,ck,cn,fj,bp,hc,hs,Gq,xfs,puQ,tkQ,Cw];exact IH (S',n'+ua3,P++[r0],U,bst,fq) _ aF ⟨rfl,by rw [hR,kg]; simp only [B9,A0 hx]; rw [if_pos ko],fm,hT,⟨lc,hlc,y7,fun bi q h=>by obtain ⟨h1,h2,h3⟩:=hlb bi q h; exact ⟨h1,Za3r,h3⟩⟩,ei,aw,aU⟩
  ·have c2:decide (sgn x<=0)=false:=gV
   obtain ⟨y,hy⟩:∃ y,y=qF.over z x:=⟨_,rfl⟩;have oy:qF.ok y.1:=by rw [hy]; exact Du.over _ _ oz ox
   have dm:=Awy S' tk' (n'+ua3) iq eq (Cl t.fl fq) z x oz ox hT.fa;have hg1:=E5 (c:=y.2) hT.fa;rw [<- hy] at dm;obtain ⟨S2,bl⟩:∃ S2,S2=flS S' iq eq y.2:=⟨_,rfl⟩;rw [<- bl] at dm hg1;have cz:FAq S2 iq eq (Cl (Cl t.fl fq) y.2):=by rw [bl]; exact hT.fa.fS
   have hl2:S2.length=S'.length:=by rw [bl,Br]
   have bm:∀ j,j≠iq->nth S2 j=nth S' j:=fun j hj=>by rw [bl,ga6 hj]
   have kw:nth S2 S.length=nth S' S.length:=Za6r
   have qh:entAt S2 S.length k=some lc:=by rw [Ac kw]; exact hlc
   have gj:B8.wrap ((t.cost.length:Int) - 1)=((t.cost.length - 1:Nat):Int):=aP
   have kh:t.cost.length - 1<t.cost.length:=aA
   obtain ⟨n2,tz⟩:∃ n2,n2=n'+ua3+Abs x:=⟨_,rfl⟩;rw [<- tz] at dm;obtain ⟨E,hE⟩:∃ E:Ent,E=⟨n2,ga0 y.1⟩:=⟨_,rfl⟩;have y8:entAt (S2++[⟨n2,ga0 y.1⟩]) S2.length n2=some (ga0 y.1):=Bm;have mr:=Ad (L:=[⟨n2,ga0 y.1⟩]) qh;have a1h:over lc 0 (ga0 y.1)=some (ga0 y.1):=by
    have:=T8 (e:=lc) (r:=[]) (e':=ga0 y.1) (by rw [y7]; rfl);exact Ya22
   have hSl:S.length<S2.length:=aA
   have y9:∀ v,Ob S'.length (put S2 S.length v++[⟨n2,ga0 y.1⟩])=put S2 S.length v:=fun v=>by rw [<- hl2,<- Am (l:=S2) (i:=S.length) (v:=v)]; simp
   have a1i:=fun v=>Dq (L:=[⟨n2,ga0 y.1⟩]) (x:=v) hSl;cases bst with
   | none =>
    have c3:decide ((-1:Int) >= 0)=false:=rfl;simp only [Py] at e5;simp (maxSteps:=10^6)+contextual(disch:=try exact dqd)only[evg1,simprocAttr,Ca,Bo,Cb,ga12,e0,e1,e5,e6,e14,e15,e16,c1,c2,c3,hw2,dv,i9,ck,cn,fj,jj,gj,kh,bp,hc,hs,dm,hg1,y8,mr,a1h,a1i,y9,Gq,xfs,puQ,tkQ,ga1,ga5,ovQ,Cw];have c8:=hT.frame (S':=put S2 S.length ⟨k,ga0 y.1⟩) (n:=S.length) (fl':=Cl (Cl t.fl fq) y.2) (bc.of fun h=>h) (fun j h1 h2=>by rw [Ae aA,bm j h2]) (by first|exact ⟨⟩|exact cz.put (fun h=>dP));exact IH (put S2 S.length ⟨k,ga0 y.1⟩,n2+1,P++[r0],U,some (P.length,y.1),Cl fq y.2) _ aF ⟨rfl,by rw [hR,kg]; simp only [B9,A0 hx,A0 hz]; rw [if_neg ko,<- hy,<- Gr],fm,by simpa only [Gr] using c8,⟨_,Ah hSl,ga1 _,fun bi q h=>Za6l⟩,by rw [Am,hl2]; exact ei,fun j h1 h2=>by rw [Ae aE,bm j h2.1]; exact aw j h1 h2,aU⟩
   | some bq =>
    obtain ⟨bi,least⟩:=bq;obtain ⟨a1j,hbi,ol⟩:=hlb bi least rfl;subst a1j;have c3:decide ((bi:Int) >= 0)=true:=by simp
    simp only [Py] at e5;obtain ⟨d,hd⟩:∃ d,d=qF.minus y.1 least:=⟨_,rfl⟩;have fw:=Nv (S2++[⟨n2,ga0 y.1⟩]) tk' (n2+1) iq eq (Cl (Cl t.fl fq) y.2) y.1 least oy ol (cz.app (L:=[⟨n2,ga0 y.1⟩]));have hg2:=E5 (c:=d.2) (b:=Cl (Cl t.fl fq) y.2) (cz.app (L:=[⟨n2,ga0 y.1⟩]));rw [<- hd] at fw;rw [H8 cz] at fw hg2;obtain ⟨S3,cu⟩:∃ S3,S3=flS S2 iq eq d.2:=⟨_,rfl⟩;rw [<- cu] at fw hg2;have od:qF.ok d.1:=by rw [hd]; exact Du.minus _ _ oy ol
    have ed:FAq S3 iq eq (Cl (Cl (Cl t.fl fq) y.2) d.2):=by rw [cu]; exact cz.fS
    have pw:=Aer (S3++[⟨n2,ga0 y.1⟩]) tk' (n2+1+ua4) iq eq (Cl (Cl (Cl t.fl fq) y.2) d.2) d.1 od (ed.app (L:=[⟨n2,ga0 y.1⟩]));have fd:S3.length=S2.length:=by rw [cu,Br]
    have cl:∀ j,j≠iq->nth S3 j=nth S2 j:=fun j hj=>by rw [cu,ga6 hj]
    have mu:nth S3 S.length=nth S2 S.length:=by rw [cu]; first|rfl|exact Bb dP
    have j6:entAt (S2++[⟨n2,ga0 y.1⟩]) I.it I.et=some [.ifc ua0 (rcvQ iq eq),intA t.vars,intA t.real,.sref I.ir I.er 0 t.rows.length 1,.sref I.ic I.ec 0 t.cost.length ua2,.sref I.ib I.eb 0 t.rows.length 1,.frz (t.flip.map Di) cc]:=Ad (by rw [Ac (bm _ aj.ap.qt.symm)]; exact dv);have qd:entAt (S3++[⟨n2,ga0 y.1⟩]) I.it I.et=some [.ifc ua0 (rcvQ iq eq),intA t.vars,intA t.real,.sref I.ir I.er 0 t.rows.length 1,.sref I.ic I.ec 0 t.cost.length ua2,.sref I.ib I.eb 0 t.rows.length 1,.frz (t.flip.map Di) cc]:=Ad (by rw [Ac (cl _ aj.ap.qt.symm),Ac (bm _ aj.ap.qt.symm)]; exact dv);have yr:entAt (S3++[⟨n2,ga0 y.1⟩]) I.ib I.eb=some (t.basis.map intA):=Ad (by rw [Ac (cl _ aj.ap.qb.symm),Ac (bm _ aj.ap.qb.symm)]; exact hT.basisE cg);obtain ⟨bk,mn⟩:=Ab (show P.length<t.basis.length by rw [aj.nb]; exact bp);obtain ⟨bb,ua⟩:=Ab (show bi<t.basis.length by rw [aj.nb]; omega);have ja:nth (Se P.length (t.basis.map intA)) 0=some (.prim (.int .i64 (bk:Int))):=Db (by rw [Af] at mn ⊢; rw [Fe,mn]; rfl);have pf:nth (Se bi (t.basis.map intA)) 0=some (.prim (.int .i64 (bb:Int))):=Db (by rw [Af] at ua ⊢; rw [Fe,ua]; rfl);have qi:bi<t.rows.length:=aA
    have za:entAt (S3++[⟨n2,ga0 y.1⟩]) S2.length n2=some (ga0 y.1):=An fd;have zc:entAt (S3++[⟨n2,ga0 y.1⟩]) S.length k=some (ga0 least):=Ad Za5j;have zd:Ob S'.length (S3++[⟨n2,ga0 y.1⟩])=S3:=by rw [<- hl2,<- fd]; simp
    have ze:∀ v,Ob S'.length (put S3 S.length v++[⟨n2,ga0 y.1⟩])=put S3 S.length v:=fun v=>by rw [<- hl2,<- fd,<- Am (l:=S3) (i:=S.length) (v:=v)]; simp
    have zf:=fun v=>Dq (L:=[⟨n2,ga0 y.1⟩]) (x:=v) (show S.length<S3.length by omega);have hw:worse t.basis (sgn d.1) P.length bi=(decide (0<sgn d.1) || (sgn d.1 == 0 && decide (bb<bk))):=by unfold worse; rw [A0 mn,A0 ua]
    have ub:Cl fq (Cl (Cl y.2 d.2) (B9 qF t.basis c t.cost.length (P++[r0]).length U (if worse t.basis (sgn d.1) P.length bi=true then some (bi,least) else some (P.length,y.1))).2)=Cl (Cl fq (Cl y.2 d.2)) (B9 qF t.basis c t.cost.length (P++[r0]).length U (if worse t.basis (sgn d.1) P.length bi=true then some (bi,least) else some (P.length,y.1))).2:=(Gr _ _ _).symm;have jq:Bw qF t c=((B9 qF t.basis c t.cost.length (P++[r0]).length U (if worse t.basis (sgn d.1) P.length bi=true then some (bi,least) else some (P.length,y.1))).1,Cl (Cl fq (Cl y.2 d.2)) (B9 qF t.basis c t.cost.length (P++[r0]).length U (if worse t.basis (sgn d.1) P.length bi=true then some (bi,least) else some (P.length,y.1))).2):=by
     rw [hR,<- ub,kg]; simp only [B9,A0 hx,A0 hz]; rw [if_neg ko,<- hy,<- hd]
    have xc:Bf S3 iq eq I { t with fl:=Cl t.fl (Cl fq (Cl y.2 d.2)) } cc:=by
     have:=hT.frame (S':=S3) (n:=S.length) (fl':=Cl (Cl (Cl t.fl fq) y.2) d.2) (bc.of fun h=>h) (fun j h1 h2=>by rw [cl j h2,bm j h2]) ed;simpa only [Gr] using this
    have hTn:Bf (put S3 S.length ⟨k,ga0 y.1⟩) iq eq I { t with fl:=Cl t.fl (Cl fq (Cl y.2 d.2)) } cc:=xc.frame (n:=S.length) (bc.of fun h=>h) (fun j h1 h2=>by rw [Ae aA]) (by first|exact ⟨⟩|exact xc.fa.put (fun h=>dP));by_cases h1:0<sgn d.1
    ·have k1:decide (sgn d.1 > 0)=true:=aY
     have jr:worse t.basis (sgn d.1) P.length bi=true:=by rw [hw]; simp [h1]
     rw [if_pos jr] at jq;simp (maxSteps:=10^6)+contextual(disch:=try exact dqd)only[evg1,simprocAttr,Ca,Bo,Cb,ga12,e0,e1,e5,e6,e14,e15,e16,c1,c2,c3,k1,hw2,dv,j6,qd,yr,i9,ck,cn,fj,jj,gj,kh,bp,qi,hc,hs,pw,dm,fw,hg1,hg2,y8,mr,ja,pf,zd,Gq,xfs,puQ,tkQ,ga1,ga5,ovQ,Cw];exact Ya0u
    have k1:decide (sgn d.1 > 0)=false:=aY
    by_cases h2:sgn d.1=0
    ·have k2:(sgn d.1 == 0)=true:=cA
     by_cases h3:bb<bk
     ·have k3:decide ((bk:Int) > (bb:Int))=true:=cJ
      have jr:worse t.basis (sgn d.1) P.length bi=true:=by rw [hw]; simp [h2,h3]
      rw [if_pos jr] at jq;simp (maxSteps:=10^6)+contextual(disch:=try exact dqd)only[evg1,simprocAttr,Ca,Bo,Cb,ga12,e0,e1,e5,e6,e14,e15,e16,c1,c2,c3,k1,k2,k3,hw2,dv,j6,qd,yr,i9,ck,cn,fj,jj,gj,kh,bp,qi,hc,hs,pw,dm,fw,hg1,hg2,y8,mr,ja,pf,zd,Gq,xfs,puQ,tkQ,ga1,ga5,ovQ,Cw];exact Ya0u
     ·have k3:decide ((bk:Int) > (bb:Int))=false:=aC
      have jr:worse t.basis (sgn d.1) P.length bi=false:=by rw [hw]; simp [h2,h3]
      rw [jr,if_neg Iw] at jq;simp (maxSteps:=10^6)+contextual(disch:=try exact dqd)only[evg1,simprocAttr,Ca,Bo,Cb,ga12,e0,e1,e5,e6,e14,e15,e16,c1,c2,c3,k1,k2,k3,hw2,dv,j6,qd,yr,i9,ck,cn,fj,jj,gj,kh,bp,qi,hc,hs,pw,dm,fw,hg1,hg2,y8,mr,za,zc,ja,pf,ze,zf,ovQ2,Gq,xfs,puQ,tkQ,ga1,ga5,ovQ,Cw];exact Ya0h
    ·have k2:(sgn d.1 == 0)=false:=cA
     have jr:worse t.basis (sgn d.1) P.length bi=false:=by rw [hw]; simp [h1,h2]
     rw [jr,if_neg Iw] at jq;simp (maxSteps:=10^6)+contextual(disch:=try exact dqd)only[evg1,simprocAttr,Ca,Bo,Cb,ga12,e0,e1,e5,e6,e14,e15,e16,c1,c2,c3,k1,k2,hw2,dv,j6,qd,yr,i9,ck,cn,fj,jj,gj,kh,bp,qi,hc,hs,pw,dm,fw,hg1,hg2,y8,mr,za,zc,ze,zf,ovQ2,Gq,xfs,puQ,tkQ,ga1,ga5,ovQ,Cw];exact Ya0h
 ·have c1:decide ((P.length:Int)<(t.rows.length:Int))=false:=cD
  have tw:U=[]:=C5.1 aA;subst tw;simp (maxSteps:=10^6)+contextual(disch:=try exact dqd)only[evg1,simprocAttr,Ca,Bo,Cb,ga12,e0,e1,e5,e6,e14,e15,e16,c1];simp only [B9,F5] at hR;have jo:fz3 S.length S' (Py bst)=Py bst:=by cases bst <;> rfl
  rw [hΦ,hR,jo];exact ⟨_,_,rfl,dO,hT.take (bc.of fun h=>h),fun j hj=>by
   by_cases jm:j<S.length
   ·rw [G6 jm]; exact aw j jm hj
   ·rw [Af,Af,C3 dO,C3 aA]⟩):p:=h
namespace QQ
theorem Aqm:Ax9:=Ma9
end QQ
end
end
section
open Go Tryz
open Go.Proofs.Tryz renaming func116->ga13,ntmps116->ga14,results116->ga15
open Go.Proofs.YthelkgdmgihhiaaGreat renaming ceQ->ga0,A3->ga1
set_option maxRecDepth 100000
namespace QQ
abbrev ua7:Nat:=116
end QQ
set_option maxHeartbeats 8000000
set_option maxRecDepth 100000
section
variable (S:List Ent) (tk:List Nat) (k iq eq:Nat)
abbrev Ax10 (p:Prop:=by exact ∀ (S:List Ent)(tk:List Nat)(k iq eq:Nat)(I:TI)(t t':Tb)(cc:Cap)(K:Nat)(b:Bool)(aj:Bf S iq eq I t cc)(hK:J4 qF K t=some (b,t')),∃ r,cL prog ua7 [.ref I.it I.et 0] S tk k=some r/\Aai S tk iq eq I t' cc (.bool b) r):=p
theorem Ma10 {p:Prop} (h:p:=by
 intro S tk k iq eq I t t' cc K b aj hK;obtain ⟨Φ,hΦ⟩:∃ Φ,Φ=Aai S tk iq eq I t' cc (.bool b):=⟨_,rfl⟩;rw [<- hΦ];refine opG ga13 ga14 ?_;simp (maxSteps:=10^6)+contextual(disch:=try exact dqd)only[evg1,simprocAttr,Ca,Bo,Cb,ga15];refine Ef (P:=prog) (fun x st=>st.T.length=46/\(J4 qF x.2.2.1 x.2.2.2=some (b,t'))/\(Bf x.1 iq eq I x.2.2.2 cc)/\(x.1.length=S.length)/\(∀ j,OutQ I iq j->nth x.1 j=nth S j)/\getT st.T 0=.ref I.it I.et 0/\st.S=x.1/\st.tk=tk/\st.n=x.2.1) (fun x=>x.2.2.1) (S,k,K,t) ?_ ?_;case refine_2=>exact ⟨rfl,hK,aj,rfl,fun j _=>rfl,rfl,rfl,rfl,rfl⟩
 rintro ⟨SS,n1,K1,t1⟩ ⟨T,S',tk',n'⟩ ⟨hl,dt,hT,ei,aw,e0,eS,eT,eN⟩ IH;simp only at dt hT ei aw e0 eS eT eN;subst eS eT eN;obtain ⟨g,hg,hT⟩:=Ap hl;rw [hg] at e0;subst hT;clear hg hl;have IHA:=IH;clear IH;cases K1 with
 | zero=>simp [J4] at dt
 | succ K1 =>
 have ag:=hT.top;have d7:=hT.real;have hW:=hT.bigW;have j0:=Af2 S' tk' n' iq eq t1.fl hT.fa;have kx:Ob S.length S'=S':=Ff aA;unfold J4 at dt;cases ai:(qF.stop && t1.fl) with
 | true =>
  rw [ai] at dt j0;rw [if_pos rfl] at dt;simp only [Bg,Cf] at dt;obtain ⟨rfl,rfl⟩:=dt;simp (maxSteps:=10^6)+contextual(disch:=try exact dqd)only[evg1,simprocAttr,Ca,Bo,Cb,ga15,e0,ag,j0,Gq,xfs,puQ];rw [hΦ,kx];exact ⟨S',n',rfl,ei,hT,aw⟩
 | false =>
 rw [ai] at dt j0;rw [if_neg Iw] at dt;simp only [intA] at ag;simp (maxSteps:=10^6)+contextual(disch:=try exact dqd)only[evg1,simprocAttr,Ca,Bo,Cb,ga15,e0,ag,j0,Gq,xfs,puQ];refine Ef (P:=prog) (fun x st=>st.T.length=46/\(x.2<=t1.real)/\(colF t1.cost t1.real 0=colF t1.cost (t1.real - x.2) x.2)/\getT st.T 0=.ref I.it I.et 0/\getT st.T 3=.int (-1)/\getT st.T 14=.int (t1.real:Nat)/\getT st.T 15=.int (x.2:Nat)/\st.S=S'/\st.tk=tk'/\st.n=x.1) (fun x=>t1.real - x.2) (n',0) ?_ ?_;case refine_2=>exact ⟨rfl,Ci _,rfl,rfl,rfl,rfl,rfl,rfl,rfl,rfl⟩
 rintro ⟨n2,j⟩ ⟨T,S',tk',n'⟩ ⟨hl,hj,hc,e0,e3,e14,e15,eS,eT,eN⟩ IH;simp only at hj hc e0 e3 e14 e15 eS eT eN;subst eS eT eN;obtain ⟨g,hg,hT⟩:=Ap hl;rw [hg] at e0 e3 e14 e15;subst hT;clear hg hl;by_cases re:j<t1.real
 ·have c1:decide ((j:Int)<(t1.real:Int))=true:=dX
  have hw:B8.wrap ((j:Int)+1)=((j+1:Nat):Int):=aS
  have mw:j<t1.cost.length:=aA
  obtain ⟨x,hx⟩:=Ab mw;have ox:=hT.okc x (Aj hx);have fj:=Au (ce:=ga0) ga1 hx;have hs:=Aer S' tk' n' iq eq t1.fl x ox hT.fa;have gm:=hT.costE;have tj:colF t1.cost (t1.real - j) j=if sgn x<0 then some j else colF t1.cost (t1.real - (j+1)) (j+1):=by
   rw [show t1.real - j=(t1.real - (j+1))+1 by omega];simp only [colF,A0 hx]
  by_cases hneg:sgn x<0
  ·have c2:decide (sgn x<0)=true:=bA
   have c3:decide ((j:Int)<0)=false:=by simp
   rw [hc,tj,if_pos hneg] at dt;simp only at dt;obtain ⟨r,ji,S2,k2,rfl,hl2,ah,cz⟩:=Aqm S' tk' (n'+ua3) iq eq I t1 cc j hT mw;obtain ⟨lv,zg⟩:∃ lv,lv=Bw qF t1 j:=⟨_,rfl⟩;rw [<- zg] at dt ji ah;obtain ⟨lb,lf⟩:=lv;cases lb with
   | none =>
    simp only [Bg,Cf] at dt;obtain ⟨rfl,rfl⟩:=dt;have c4:decide ((-1:Int)<0)=true:=rfl;simp only [Py] at ji;have zh:Ob S.length S2=S2:=Ff aA;simp (maxSteps:=10^6)+contextual(disch:=try exact dqd)only[evg1,simprocAttr,Ca,Bo,Cb,ga15,e0,e3,e14,e15,c1,c2,c3,c4,ag,gm,fj,mw,hs,ji,Gq,xfs,puQ,tkQ];rw [hΦ,zh];exact ⟨S2,k2,rfl,aA,ah,fun j hj=>by rw [cz j hj]; exact aw j hj⟩
   | some bq =>
    obtain ⟨i,q⟩:=bq;simp only at dt;have wy:i<t1.rows.length:=Amk (F:=qF) (t:=t1) (c:=j) (q:=q) (f:=lf) zg.symm;obtain ⟨r,px,S3,k3,rfl,fd,c8,ed⟩:=Aw1 S2 tk' k2 iq eq I _ cc i j ah wy mw;have c4:decide ((i:Int)<0)=false:=by simp
    simp only [Py] at ji;have zi:Ob S'.length S3=S3:=Ff aA;simp (maxSteps:=10^6)+contextual(disch:=try exact dqd)only[evg1,simprocAttr,Ca,Bo,Cb,ga15,e0,e3,e14,e15,c1,c2,c3,c4,ag,gm,fj,mw,hs,ji,px,zi,Gq,xfs,puQ,tkQ];exact IHA (S3,k3,K1,Eo qF { t1 with fl:=Cl t1.fl lf } i j) _ aF ⟨rfl,dt,c8,aE,fun j hj=>by rw [ed j hj,cz j hj]; exact aw j hj,aU⟩
  ·have c2:decide (sgn x<0)=false:=bA
   rw [tj,if_neg hneg] at hc;simp (maxSteps:=10^6)+contextual(disch:=try exact dqd)only[evg1,simprocAttr,Ca,Bo,Cb,ga15,e0,e3,e14,e15,c1,c2,hw,ag,gm,fj,mw,hs,Gq,xfs,puQ,tkQ];exact IH (n'+ua3,j+1) _ aF ⟨rfl,aE,hc,aU⟩
 ·have c1:decide ((j:Int)<(t1.real:Int))=false:=dX
  have c3:decide ((-1:Int)<0)=true:=rfl;have mh:t1.real - j=0:=aA
  rw [hc,mh] at dt;simp only [colF,Bg,Cf] at dt;obtain ⟨rfl,rfl⟩:=dt;simp (maxSteps:=10^6)+contextual(disch:=try exact dqd)only[evg1,simprocAttr,Ca,Bo,Cb,ga15,e0,e3,e14,e15,c1,c3,ag];rw [hΦ,kx];exact ⟨S',n',rfl,ei,hT,aw⟩):p:=h
namespace QQ
theorem Ap2:Ax10:=Ma10
end QQ
end
end
section
open Go Tryz
open Go.Proofs.Tryz renaming func117->ga16,ntmps117->ga17,results117->ga18,func145->ga19,ntmps145->ga20,results145->ga21
open Go.Proofs.YthelkgdmgihhiaaGreat renaming ceQ->ga0,A3->ga1,B4->ga5
set_option maxRecDepth 100000
namespace QQ
abbrev ua8:Nat:=117
abbrev ua9:Nat:=145
end QQ
set_option maxHeartbeats 4000000
set_option maxRecDepth 100000
theorem Aa3 {basis:List Nat} {k:Nat} : ∀ {l:List (List Q)} {i j:Nat},Lr basis k i l=some j->i<=j/\j<i+l.length/\at_ 0 basis j=k
 | [],_,_,h=>by simp [Lr] at h
 | r :: l,i,j,h=>by
  unfold Lr at h;split at h
  ·simp only [Bg] at h; subst h; rename_i h; exact ⟨Ce _,by simp,h⟩
  ·have:=Aa3 h; simp only [Cj]; omega
namespace QQ
def Ava (S:List Ent) (tk:List Nat) (iq eq:Nat) (y:Q × Bool) (r:Rs):Prop:=∃ k',r=(.agg (ceQ y.1),flS S iq eq y.2,tk,k')
end QQ
section
variable (S:List Ent) (tk:List Nat) (k iq eq:Nat)
abbrev Ax11 (p:Prop:=by exact ∀ (S:List Ent)(tk:List Nat)(k iq eq:Nat)(I:TI)(t:Tb)(cc:Cap)(hT:Bf S iq eq I t cc),∃ r,cL prog ua8 [.ref I.it I.et 0] S tk k=some r/\Aai S tk iq eq I t cc (.bool (Jd t)) r):=p
theorem Ma11 {p:Prop} (h:p:=by
 intro S tk k iq eq I t cc hT;obtain ⟨Φ,hΦ⟩:∃ Φ,Φ=Aai S tk iq eq I t cc (.bool (Jd t)):=⟨_,rfl⟩;rw [<- hΦ];have ag:=hT.top;have hW:=hT.bigW;have d7:=hT.real;have gm:=hT.costE;obtain ⟨z,hz⟩:=Ab (show t.cost.length - 1<t.cost.length by omega);have oz:=hT.okc z (Aj hz);have jj:=Au (ce:=ga0) ga1 hz;have hs:=Aer S tk k iq eq t.fl z oz hT.fa;have gj:B8.wrap ((t.cost.length:Int) - 1)=((t.cost.length - 1:Nat):Int):=aP
 have kh:t.cost.length - 1<t.cost.length:=aA
 refine opG ga16 ga17 ?_;simp (maxSteps:=10^6)+contextual(disch:=try exact dqd)only[evg1,simprocAttr,Ca,Bo,Cb,ga18,ag,gm,jj,gj,kh,hs,Gq,xfs,puQ,tkQ];rw [hΦ];exact ⟨S,_,by simp only [Jd,A0 hz]; rfl,rfl,hT,fun j _=>rfl⟩):p:=h
namespace QQ
theorem Alv:Ax11:=Ma11
end QQ
abbrev Ax12 (p:Prop:=by exact ∀ (S:List Ent)(tk:List Nat)(k iq eq:Nat)(I:TI)(t:Tb)(cc:Cap)(c:Nat)(hT:Bf S iq eq I t cc),∃ r,cL prog ua9 [.ref I.it I.et 0,.int c] S tk k=some r/\Ava S tk iq eq (Dp qF t c) r):=p
theorem Ma12 {p:Prop} (h:p:=by
 intro S tk k iq eq I t cc c hT;obtain ⟨Φ,hΦ⟩:∃ Φ,Φ=Ava S tk iq eq (Dp qF t c):=⟨_,rfl⟩;rw [<- hΦ];have ag:=hT.top;have hM:=hT.bigM;have hW:=hT.bigW;have d7:=hT.real;have bc:=hT.low;obtain ⟨y,hy⟩:∃ y,y=qF.whole 0:=⟨_,rfl⟩;obtain ⟨h,hh⟩:∃ h,h=de I.ib I.eb 1 t.rows.length:=⟨_,rfl⟩;have hlen:lenV false true h=some (.int (t.rows.length:Nat)):=by
  rw [hh];cases t.rows.length with
  | zero=>rfl
  | succ n=>rfl
 rw [<- hh] at ag;have b9:=hT.fa.app (L:=[⟨k,zeroQ⟩]);have i5:=Mw (S++[⟨k,zeroQ⟩]) tk (k+1) iq eq t.fl 0 aD b9;rw [<- hy,H8 hT.fa] at i5;have hl1:(flS S iq eq y.2).length=S.length:=Br;have hE:=An (k:=k) (cs:=zeroQ) hl1;have xd:=An (k:=k) (cs:=ga0 y.1) hl1;have hP:=fun e e'=>De (e:=e) (e':=e') hl1;have xc:=fun L=>Ky (L:=L) hl1;have htA:=Ad (L:=[⟨k,zeroQ⟩]) ag;refine opG ga19 ga20 ?_;simp (maxSteps:=10^6)+contextual(disch:=try exact dqd)only[evg1,simprocAttr,Ca,Bo,Cb,ga21,ag,htA,hlen];refine Ef (P:=prog) (fun x st=>st.T.length=44/\(t.rows=x.1++x.2)/\(Lr t.basis c 0 t.rows=Lr t.basis c x.1.length x.2)/\getT st.T 0=.ref I.it I.et 0/\getT st.T 1=.int (c:Nat)/\getT st.T 4=.ref S.length k 0/\getT st.T 10=h/\getT st.T 11=.int (t.rows.length:Nat)/\getT st.T 12=.int (x.1.length:Nat)/\st.S=S++[⟨k,zeroQ⟩]/\st.tk=tk/\st.n=k+1) (fun x=>x.2.length) (([]:List (List Q)),t.rows) ?_ ?_;case refine_2=>exact ⟨rfl,rfl,rfl,rfl,rfl,rfl,rfl,rfl,rfl,rfl,rfl,rfl⟩
 rintro ⟨P,U⟩ ⟨T,S',tk',n'⟩ ⟨hl,dq,hR,e0,e1,e4,e10,e11,e12,eS,eT,eN⟩ IH;simp only at dq hR e0 e1 e4 e10 e11 e12 eS eT eN;subst eS eT eN;obtain ⟨g,hg,hT⟩:=Ap hl;rw [hg] at e0 e1 e4 e10 e11 e12;subst hT;clear hg hl;have rg:t.rows.length=P.length+U.length:=dY
 by_cases bp:P.length<t.rows.length
 ·have c1:decide ((P.length:Int)<(t.rows.length:Int))=true:=cD
  have dc:0<t.rows.length:=aA
  have cg:t.rows≠[]:=fun h0=>by rw [h0] at dc; simp at dc
  rw [Bu dc] at hh;subst hh;have dv:=hT.top;rw [Bu dc,Bu dc] at dv;obtain ⟨r0,U,rfl⟩:∃ r0 U',U=r0 :: U':=by
   exact Ya1h
  have wg:U.length<(r0 :: U).length:=by simp
  have hw2:B8.wrap ((P.length:Int)+1)=(((P++[r0]).length:Nat):Int):=bQ
  have kg:(P++[r0]).length=P.length+1:=by simp
  obtain ⟨bk,mn⟩:=Ab (show P.length<t.basis.length by rw [hT.nb]; exact bp);have ja:nth (Se P.length (t.basis.map intA)) 0=some (.prim (.int .i64 (bk:Int))):=Db (by rw [Af] at mn ⊢; rw [Fe,mn]; rfl);have qg:=Ad (L:=[⟨k,zeroQ⟩]) (hT.basisE cg);have htB:=Ad (L:=[⟨k,zeroQ⟩]) dv;by_cases hb:bk=c
  ·have c2:((bk:Int) == (c:Int))=true:=by simp [hb]
   obtain ⟨pk,gh⟩:=Ab (show P.length<I.ids.length by rw [hT.nids]; exact bp);have ck:nth (Se P.length (I.ids.map (dp t.cost.length ua2))) 0=some (.sref pk.1 pk.2 0 t.cost.length ua2):=Db (by rw [Af] at gh ⊢; rw [Fe,gh]; rfl);have iv:nth t.rows P.length=some r0:=by rw [dq]; exact Eg
   have dk:=hT.rowW r0 (Aj iv);have i9:=Ad (L:=[⟨k,zeroQ⟩]) (hT.rowsE cg);have cn:=Ad (L:=[⟨k,zeroQ⟩]) (hT.rowE P.length pk r0 gh iv);obtain ⟨z,hz⟩:=Ab (show t.cost.length - 1<r0.length by omega);have jj:=Au (ce:=ga0) ga1 hz;have gj:B8.wrap ((t.cost.length:Int) - 1)=((t.cost.length - 1:Nat):Int):=aP
   have kh:t.cost.length - 1<t.cost.length:=aA
   have ef:Dp qF t c=(z,false):=by
    unfold Dp;rw [hR];unfold Lr;rw [A0 mn,if_pos hb];simp only [Bk,A0 iv,A0 hz]
   have b7:entAt (S++[⟨k,ga0 z⟩]) S.length k=some (ga0 z):=An rfl;have bm:∀ e e',put (S++[e]) S.length e'=S++[e']:=fun e e'=>De rfl;simp (maxSteps:=10^6)+contextual(disch:=try exact dqd)only[evg1,simprocAttr,Ca,Bo,Cb,ga21,e0,e1,e4,e10,e11,e12,c1,c2,htB,qg,ja,i9,ck,cn,jj,gj,kh,bp,b7,bm,Ji,Ary,tkQ,ga1,ga5,ovQ,Cw];rw [hΦ,ef];exact ⟨_,rfl⟩
  ·have c2:((bk:Int) == (c:Int))=false:=aC
   simp (maxSteps:=10^6)+contextual(disch:=try exact dqd)only[evg1,simprocAttr,Ca,Bo,Cb,ga21,e0,e1,e4,e10,e11,e12,c1,c2,htB,qg,ja,bp,hw2,Cw];exact IH (P++[r0],U) _ aF ⟨rfl,dY,by rw [hR,kg]; simp only [Lr]; rw [A0 mn,if_neg hb],aU⟩
 ·have c1:decide ((P.length:Int)<(t.rows.length:Int))=false:=cD
  have tw:U=[]:=C5.1 aA;subst tw;have ef:Dp qF t c=y:=by unfold Dp; rw [hR]; simp only [Lr]; exact hy.symm
  simp (maxSteps:=10^6)+contextual(disch:=try exact dqd)only[evg1,simprocAttr,Ca,Bo,Cb,ga21,e0,e1,e4,e10,e11,e12,c1,htA,i5,hE,xd,hP,xc,Gq,xfs,puQ,Ary,tkQ,ga1,ga5,ovQ];rw [hΦ,ef];exact ⟨_,rfl⟩):p:=h
namespace QQ
theorem Ald:Ax12:=Ma12
end QQ
end
end
section
open Go
set_option maxRecDepth 100000
namespace QQ
theorem Gl (n:Int) (hn:i64 n):qF.ok (qF.whole n).1:=Du.whole n hn
end QQ
abbrev Ax13 (p:Prop:=by exact ∀ {S:List Ent}{iq eq:Nat}{I:TI}{t:Tb}{cc:Cap}{c:Nat}(hT:Bf S iq eq I t cc),qF.ok (Dp qF t c).1):=p
theorem Ma13 {p:Prop} (h:p:=by
 intro hT;unfold Dp;split
 ·rename_i i hi;have hlt:=(Aa3 hi).2.1;obtain ⟨r0,cg⟩:=Ab (show i<t.rows.length by omega);have dk:=hT.rowW r0 (Aj cg);have d7:=hT.real;obtain ⟨z,hz⟩:=Ab (show t.cost.length - 1<r0.length by omega);simp only [Bk,A0 cg,A0 hz];exact hT.okr r0 (Aj cg) z (Aj hz)
 ·exact Gl 0 aD):p:=h
namespace QQ
theorem Alb:Ax13:=fun {S iq eq I t cc c}=>Ma13
end QQ
end
section
open Go Tryz
open Go.Proofs.Tryz renaming func119->ga22,ntmps119->ga23,results119->ga24,func118->ga25,ntmps118->ga26,results118->ga27
open Go.Proofs.YthelkgdmgihhiaaGreat renaming ceQ->ga0,A3->ga1,B4->ga5,Bb->ga6
set_option maxRecDepth 100000
namespace QQ
abbrev ua10:Nat:=119
abbrev ua11:Nat:=3
abbrev ua12:Nat:=118
end QQ
set_option maxHeartbeats 8000000
set_option maxRecDepth 100000
namespace QQ
def Mm (l:List Q):List (List AV):=l.map fun q=>ceW (qF.rat q)
theorem Agx (l:List Q):B2 4 (Mm l)=true:=Za1v
def Aoz (S:List Ent) (iq eq:Nat) (I:TI) (t':Tb) (cc:Cap) (l:List Q) (r:Rs):Prop :=
 ∃ S' k' tk' c,r=(.frz (Mm l) c,S',tk',k')/\S'.length=S.length/\Bf S' iq eq I t' cc/\∀ j,OutQ I iq j->nth S' j=nth S j
end QQ
section
variable (S:List Ent) (tk:List Nat) (k iq eq:Nat)
abbrev Ax14 (p:Prop:=by exact ∀ (S:List Ent)(tk:List Nat)(k iq eq:Nat)(I:TI)(t:Tb)(cc:Cap)(aj:Bf S iq eq I t cc)(hv:2*t.vars<=t.real),∃ r,cL prog ua10 [.ref I.it I.et 0] S tk k=some r/\Aoz S iq eq I { t with fl:=Cl t.fl (Gv qF t).2 } cc (Gv qF t).1 r):=p
theorem Ma14 {p:Prop} (h:p:=by
 intro S tk k iq eq I t cc aj hv;obtain ⟨Φ,hΦ⟩:∃ Φ,Φ=Aoz S iq eq I { t with fl:=Cl t.fl (Gv qF t).2 } cc (Gv qF t).1:=⟨_,rfl⟩;rw [<- hΦ];have ag:=aj.top;have hW:=aj.bigW;have d7:=aj.real;simp only [intA] at ag;refine opG ga22 ga23 ?_;simp (maxSteps:=10^6)+contextual(disch:=try exact dqd)only[evg1,simprocAttr,Ca,Bo,Cb,ga24,ag];refine Ef (P:=prog) (fun x st=>st.T.length=40/\(x.2.2.2.2.1<=t.vars)/\(Gv qF t=(x.2.2.2.2.2.1++(Gg (ptF qF t) (t.vars - x.2.2.2.2.1) x.2.2.2.2.1).1,Cl x.2.2.2.2.2.2 (Gg (ptF qF t) (t.vars - x.2.2.2.2.1) x.2.2.2.2.1).2))/\(x.2.2.2.2.2.1.length=x.2.2.2.2.1)/\(Be x.2.2.1 x.2.2.2.1 4=true)/\(Bf x.1 iq eq I { t with fl:=Cl t.fl x.2.2.2.2.2.2 } cc)/\(x.1.length=S.length)/\(∀ v,OutQ I iq v->nth x.1 v=nth S v)/\getT st.T 0=.ref I.it I.et 0/\getT st.T 3=.frz (Mm x.2.2.2.2.2.1) x.2.2.2.1/\getT st.T 8=.int (t.vars:Nat)/\getT st.T 9=.int (x.2.2.2.2.1:Nat)/\st.S=x.1/\st.tk=x.2.2.1/\st.n=x.2.1) (fun x=>t.vars - x.2.2.2.2.1) (S,k,tk,Cap.nilc,0,([]:List Q),false) ?_ ?_;case refine_2=>exact ⟨rfl,Ci _,by simp [Gv],rfl,rfl,by simp only [F5]; exact aj,rfl,fun j _=>rfl,rfl,rfl,rfl,rfl,rfl,rfl,rfl⟩
 rintro ⟨SS,n1,tk1,cp,j,out,fq⟩ ⟨T,S',tk',n'⟩ ⟨hl,hj,hR,oj,ab,hT,ei,aw,e0,e3,e8,e9,eS,eT,eN⟩ IH;simp only at hj hR oj ab hT ei aw e0 e3 e8 e9 eS eT eN;subst eS eT eN;obtain ⟨g,hg,hT⟩:=Ap hl;rw [hg] at e0 e3 e8 e9;subst hT;clear hg hl;have kx:Ob S.length S'=S':=Ff aA;by_cases hjv:j<t.vars
 ·have c1:decide ((j:Int)<(t.vars:Int))=true:=gF
  have hw:B8.wrap ((j:Int)+1)=((j+1:Nat):Int):=aS
  have hwm:B8.wrap (2*(j:Int))=((2*j:Nat):Int):=aS
  have a1k:B8.wrap (((2*j:Nat):Int)+1)=((2*j+1:Nat):Int):=aS
  have dv:=hT.top;obtain ⟨a,ha⟩:∃ a,a=Dp qF t (2*j):=⟨_,rfl⟩;obtain ⟨b,hb⟩:∃ b,b=Dp qF t (2*j+1):=⟨_,rfl⟩;obtain ⟨d,hd⟩:∃ d,d=qF.minus a.1 b.1:=⟨_,rfl⟩;have oa:qF.ok a.1:=by rw [ha]; exact Alb aj
  have ob:qF.ok b.1:=by rw [hb]; exact Alb aj
  have od:qF.ok d.1:=by rw [hd]; exact Du.minus _ _ oa ob
  obtain ⟨r,gt,k1,rfl⟩:=Ald S' tk' n' iq eq I _ cc (2*j) hT;have ea:Dp qF { t with fl:=Cl t.fl fq } (2*j)=a:=ha.symm;rw [ea] at gt;have hg1:=E5 (c:=a.2) hT.fa;have o4:=hT.fa.fS (c:=a.2);obtain ⟨S1,ci⟩:∃ S1,S1=flS S' iq eq a.2:=⟨_,rfl⟩;have ba:=hT.flag (S':=flS S' iq eq a.2) (fun j hj=>ga6 hj) o4;rw [<- ci] at gt hg1 o4 ba;obtain ⟨r,hcb,k2,rfl⟩:=Ald S1 tk' k1 iq eq I _ cc (2*j+1) ba;have eb:Dp qF { t with fl:=Cl (Cl t.fl fq) a.2 } (2*j+1)=b:=hb.symm;rw [eb] at hcb;have hg2:=E5 (c:=b.2) o4;have cz:=o4.fS (c:=b.2);obtain ⟨S2,bl⟩:∃ S2,S2=flS S1 iq eq b.2:=⟨_,rfl⟩;rw [<- bl] at hcb hg2 cz;have hm:=Nv S2 tk' k2 iq eq _ a.1 b.1 oa ob cz;rw [<- hd] at hm;have hg3:=E5 (c:=d.2) cz;have ed:=cz.fS (c:=d.2);obtain ⟨S3,cu⟩:∃ S3,S3=flS S2 iq eq d.2:=⟨_,rfl⟩;rw [<- cu] at hm hg3 ed;have hr:=V8 S3 tk' (k2+ua4) iq eq _ d.1 od ed;have cl:∀ v,v≠iq->nth S3 v=nth S' v:=fun v hv=>by rw [cu,ga6 hv,bl,ga6 hv,ci,ga6 hv]
  have fd:S3.length=S'.length:=by rw [cu,Br,bl,Br,ci,Br]
  have a35:entAt S1 I.it I.et=_:=ba.top;have hpt:ptF qF t j=(d.1,Cl (Cl a.2 b.2) d.2):=by rw [hd,hb,ha]; rfl
  have my:Gg (ptF qF t) (t.vars - j) j=(d.1 :: (Gg (ptF qF t) (t.vars - (j+1)) (j+1)).1,Cl (Cl (Cl a.2 b.2) d.2) (Gg (ptF qF t) (t.vars - (j+1)) (j+1)).2):=by
   rw [show t.vars - j=(t.vars - (j+1))+1 by omega];simp only [Gg,hpt]
  have i6:=Agx out;have md:(Mm out).length+1<=1048576:=Za4j
  have hle:Mm (out++[d.1])=Mm out++[ceW (qF.rat d.1)]:=by unfold Mm; simp
  have bh:=apB_one (y:=ceW (qF.rat d.1)) ab i6 rfl md;have d9:=Ba ab;have zj:Ob S'.length S3=S3:=Ff aA;simp (maxSteps:=10^6)+contextual(disch:=try exact dqd)only[evg1,simprocAttr,Ca,Bo,Cb,ga24,e0,e3,e8,e9,c1,hw,hwm,a1k,dv,gt,hcb,hm,hr,hg1,hg2,hg3,bh,zj,Gq,xfs,puQ,tkQ,Al,Av,D9,Ea];have c8:=hT.flag (S':=S3) cl ed;exact IH (S3,k2+ua4+ua11,Eh tk' cp,Ay tk' cp 4,j+1,out++[d.1],Cl fq (Cl (Cl a.2 b.2) d.2)) _ aF ⟨rfl,aE,by rw [hR,my]; simp only [C6,Co,Ct,Gr],by simp [oj],d9,by simpa only [Gr] using c8,aE,fun v hv=>by rw [cl v hv.1]; exact aw v hv,Za0d⟩
 ·have c1:decide ((j:Int)<(t.vars:Int))=false:=gF
  have mh:t.vars - j=0:=aA
  rw [mh] at hR;simp only [Gg,Fj,F5] at hR;simp (maxSteps:=10^6)+contextual(disch:=try exact dqd)only[evg1,simprocAttr,Ca,Bo,Cb,ga24,e0,e3,e8,e9,c1];rw [hΦ,hR,kx];exact ⟨S',n',tk',cp,rfl,ei,hT,aw⟩):p:=h
namespace QQ
theorem Aw3:Ax14:=Ma14
end QQ
abbrev Ax15 (p:Prop:=by exact ∀ (S:List Ent)(tk:List Nat)(k iq eq:Nat)(I:TI)(t:Tb)(cc:Cap)(aj:Bf S iq eq I t cc)(hv:t.real+t.rows.length<t.cost.length),∃ r,cL prog ua12 [.ref I.it I.et 0] S tk k=some r/\Aoz S iq eq I { t with fl:=Cl t.fl (J6 qF t).2 } cc (J6 qF t).1 r):=p
theorem Ma15 {p:Prop} (h:p:=by
 intro S tk k iq eq I t cc aj hv;obtain ⟨Φ,hΦ⟩:∃ Φ,Φ=Aoz S iq eq I { t with fl:=Cl t.fl (J6 qF t).2 } cc (J6 qF t).1:=⟨_,rfl⟩;rw [<- hΦ];have ag:=aj.top;have hW:=aj.bigW;have hM:=aj.bigM;have d7:=aj.real;have bc:=aj.low;obtain ⟨one,cr⟩:∃ one,one=qF.whole 1:=⟨_,rfl⟩;obtain ⟨z0,hz0⟩:∃ z0,z0=qF.whole 0:=⟨_,rfl⟩;have o1:qF.ok one.1:=by rw [cr]; exact Gl 1 aD
 have o0:qF.ok z0.1:=by rw [hz0]; exact Gl 0 aD
 have hw1:=Mw S tk k iq eq t.fl 1 aD aj.fa;rw [<- cr] at hw1;have o4:=aj.fa.fS (c:=one.2);obtain ⟨S1,ci⟩:∃ S1,S1=flS S iq eq one.2:=⟨_,rfl⟩;have ba:=aj.flag (S':=flS S iq eq one.2) (fun j hj=>ga6 hj) o4;have hl1:(flS S iq eq one.2).length=S.length:=Br;have b7:∀ v,v≠iq->nth (flS S iq eq one.2) v=nth S v:=fun v hv=>ga6 hv;rw [<- ci] at hw1 o4 ba hl1 b7;obtain ⟨h,hh⟩:∃ h,h=de I.ir I.er 1 t.rows.length:=⟨_,rfl⟩;have hlen:lenV false true h=some (.int (t.rows.length:Nat)):=by
  rw [hh];cases t.rows.length with
  | zero=>rfl
  | succ n=>rfl
 rw [<- hh] at ag;have dv:entAt (S1++[⟨k+ua3,ga0 one.1⟩]) I.it I.et=_:=Ad ba.top;simp only at dv;rw [<- hh] at dv;refine opG ga25 ga26 ?_;simp (maxSteps:=10^6)+contextual(disch:=try exact dqd)only[evg1,simprocAttr,Ca,Bo,Cb,ga27,ag,hw1,dv,hlen,Gq,xfs,puQ,ga1,ga5,ovQ];rw [hl1];refine Ef (P:=prog) (fun x st=>st.T.length=71/\(x.2.2.2.2.1<=t.rows.length)/\(Gg (mulF qF t) t.rows.length 0=(x.2.2.2.2.2.1++(Gg (mulF qF t) (t.rows.length - x.2.2.2.2.1) x.2.2.2.2.1).1,Cl x.2.2.2.2.2.2 (Gg (mulF qF t) (t.rows.length - x.2.2.2.2.1) x.2.2.2.2.1).2))/\(x.2.2.2.2.2.1.length=x.2.2.2.2.1)/\(Be x.2.2.1 x.2.2.2.1 4=true)/\(Bf x.1 iq eq I { t with fl:=Cl (Cl t.fl one.2) x.2.2.2.2.2.2 } cc)/\(x.1.length=S.length+1)/\(∀ v,v<S.length->OutQ I iq v->nth x.1 v=nth S v)/\(entAt x.1 S.length (k+ua3)=some (ga0 one.1))/\getT st.T 0=.ref I.it I.et 0/\getT st.T 3=.frz (Mm x.2.2.2.2.2.1) x.2.2.2.1/\getT st.T 4=.ref S.length (k+ua3) 0/\getT st.T 16=.int (t.rows.length:Nat)/\getT st.T 17=.int (x.2.2.2.2.1:Nat)/\st.S=x.1/\st.tk=x.2.2.1/\st.n=x.2.1) (fun x=>t.rows.length - x.2.2.2.2.1) ((S1++[⟨k+ua3,ga0 one.1⟩]),(k+ua3+1),tk,Cap.nilc,0,([]:List Q),false) ?_ ?_;case refine_2=>exact ⟨rfl,Ci _,by simp,rfl,rfl,by simp only [F5]; exact ba.app _,by simp [hl1],fun v hv ho=>by rw [Bj aA]; exact b7 v ho.1,An hl1,rfl,rfl,rfl,rfl,rfl,rfl,rfl,rfl⟩
 rintro ⟨SS,n1,tk1,cp,j,out,fq⟩ ⟨T,S',tk',n'⟩ ⟨hl,hj,hR,oj,ab,hT,ei,aw,zk,e0,e3,e4,e16,e17,eS,eT,eN⟩ IH;simp only at hj hR oj ab hT ei aw zk e0 e3 e4 e16 e17 eS eT eN;subst eS eT eN;obtain ⟨g,hg,hT⟩:=Ap hl;rw [hg] at e0 e3 e4 e16 e17;subst hT;clear hg hl;by_cases hjm:j<t.rows.length
 ·have c1:decide ((j:Int)<(t.rows.length:Int))=true:=by simpa using hjm
  have hw:B8.wrap ((j:Int)+1)=((j+1:Nat):Int):=aS
  have ym:B8.wrap ((t.real:Int)+(j:Int))=((t.real+j:Nat):Int):=aS
  have hrc:t.real+j<t.cost.length:=aA
  have htj:=hT.top;simp only [intA] at htj;have gm:=hT.costE;obtain ⟨x,hx⟩:=Ab hrc;have ox:=aj.okc x (Aj hx);have fj:=Au (ce:=ga0) ga1 hx;obtain ⟨y,hy⟩:∃ y,y=qF.minus x one.1:=⟨_,rfl⟩;have oy:qF.ok y.1:=by rw [hy]; exact Du.minus _ _ ox o1
  have dm:=Nv S' tk' n' iq eq (Cl (Cl t.fl one.2) fq) x one.1 ox o1 hT.fa;rw [<- hy] at dm;have hg1:=E5 (c:=y.2) hT.fa;have cz:=hT.fa.fS (c:=y.2);obtain ⟨S2,bl⟩:∃ S2,S2=flS S' iq eq y.2:=⟨_,rfl⟩;have ah:=hT.flag (S':=flS S' iq eq y.2) (fun j hj=>ga6 hj) cz;have hl2:(flS S' iq eq y.2).length=S'.length:=Br;have bm:∀ v,v≠iq->nth (flS S' iq eq y.2) v=nth S' v:=fun v hv=>ga6 hv;have kw:nth S2 S.length=nth S' S.length:=Za6r
  rw [<- bl] at dm hg1 cz ah hl2 bm;obtain ⟨n2,tz⟩:∃ n2,n2=n'+ua4:=⟨_,rfl⟩;rw [<- tz] at dm;have zl:entAt (S2++[⟨n2,ga0 y.1⟩]) S2.length n2=some (ga0 y.1):=Bm;obtain ⟨bf,zm⟩:=Ab (show j<t.flip.length by rw [aj.nf]; exact hjm);have zn:nth (t.flip.map Di) j=some [.prim (.bool bf)]:=by rw [Af] at zm ⊢; rw [Fe,zm]; rfl
  have qj:=ah.app [⟨n2,ga0 y.1⟩];have j6:=qj.top;simp only [intA] at j6;have jy:∀ v,mulF qF t j=v->Gg (mulF qF t) (t.rows.length - j) j=(v.1 :: (Gg (mulF qF t) (t.rows.length - (j+1)) (j+1)).1,Cl v.2 (Gg (mulF qF t) (t.rows.length - (j+1)) (j+1)).2):=by
   intro v hv;rw [show t.rows.length - j=(t.rows.length - (j+1))+1 by omega];simp only [Gg,hv]
  have i6:=Agx out;have md:(Mm out).length+1<=1048576:=Za4j
  have d9:=Ba ab;cases bf with
  | false =>
   have yw:mulF qF t j=y:=by
    unfold mulF;rw [A0 hx,A0 zm,<- cr,<- hy]; rfl
   have hr:=V8 (S2++[⟨n2,ga0 y.1⟩]) tk' (n2+1) iq eq _ y.1 oy qj.fa;have bh:=apB_one (y:=ceW (qF.rat y.1)) ab i6 rfl md;have mz:Ob S'.length (S2++[⟨n2,ga0 y.1⟩])=S2:=by rw [<- hl2]; simp
   simp (maxSteps:=10^6)+contextual(disch:=try exact dqd)only[evg1,simprocAttr,Ca,Bo,Cb,ga27,e0,e3,e4,e16,e17,c1,hw,ym,htj,gm,fj,hrc,zk,dm,hg1,zl,j6,zn,hr,bh,mz,Gq,xfs,puQ,tkQ,ga1,ga5,ovQ,Al,Av,D9,Ea];exact IH (S2,n2+1+ua11,Eh tk' cp,Ay tk' cp 4,j+1,out++[y.1],Cl fq y.2) _ aF ⟨rfl,aE,by rw [hR,jy y yw]; simp only [C6,Co,Ct,Gr],by simp [oj],d9,by simpa only [Gr] using ah,aE,fun v hv ho=>by rw [bm v ho.1]; exact aw v hv ho,by rw [Ac kw]; exact zk,Za0d⟩
  | true =>
   obtain ⟨d,hd⟩:∃ d,d=qF.minus z0.1 y.1:=⟨_,rfl⟩;have od:qF.ok d.1:=by rw [hd]; exact Du.minus _ _ o0 oy
   have yw:mulF qF t j=(d.1,Cl y.2 (Cl z0.2 d.2)):=by
    unfold mulF;rw [A0 hx,A0 zm,<- cr,<- hy,<- hz0,hd]; rfl
   have hwz:=Mw (S2++[⟨n2,ga0 y.1⟩]) tk' (n2+1) iq eq _ 0 aD qj.fa;have hg2:=E5 (c:=z0.2) qj.fa;rw [<- hz0] at hwz;rw [H8 cz] at hwz hg2;have ed:=cz.fS (c:=z0.2);obtain ⟨S3,cu⟩:∃ S3,S3=flS S2 iq eq z0.2:=⟨_,rfl⟩;have c8:=ah.flag (S':=flS S2 iq eq z0.2) (fun j hj=>ga6 hj) ed;have fd:(flS S2 iq eq z0.2).length=S2.length:=Br;have cl:∀ v,v≠iq->nth (flS S2 iq eq z0.2) v=nth S2 v:=fun v hv=>ga6 hv;have mu:nth S3 S.length=nth S2 S.length:=by rw [cu]; first|rfl|exact Bb dP
   rw [<- cu] at hwz hg2 ed c8 fd cl;have zo:=ed.app (L:=[⟨n2,ga0 y.1⟩]);have fw:=Nv (S3++[⟨n2,ga0 y.1⟩]) tk' (n2+1+ua3) iq eq _ z0.1 y.1 o0 oy zo;have hg3:=E5 (c:=d.2) zo;rw [<- hd] at fw;rw [H8 ed] at fw hg3;have hf4:=ed.fS (c:=d.2);obtain ⟨S4,hS4⟩:∃ S4,S4=flS S3 iq eq d.2:=⟨_,rfl⟩;have wh:=c8.flag (S':=flS S3 iq eq d.2) (fun j hj=>ga6 hj) hf4;have sw:(flS S3 iq eq d.2).length=S3.length:=Br;have hn4:∀ v,v≠iq->nth (flS S3 iq eq d.2) v=nth S3 v:=fun v hv=>ga6 hv;have a1l:nth S4 S.length=nth S3 S.length:=by rw [hS4]; first|rfl|exact Bb dP
   rw [<- hS4] at fw hg3 hf4 wh sw hn4;have hE3:entAt (S3++[⟨n2,ga0 y.1⟩]) S2.length n2=some (ga0 y.1):=An fd;have qk:S4.length=S2.length:=aA
   have uc:entAt (S4++[⟨n2,ga0 y.1⟩]) S2.length n2=some (ga0 y.1):=An qk;have ud:entAt (S4++[⟨n2,ga0 d.1⟩]) S2.length n2=some (ga0 d.1):=An qk;have hP4:=fun e e'=>De (e:=e) (e':=e') qk;have zp:=wh.app [⟨n2,ga0 d.1⟩];have xe:=zp.top;simp only [intA] at xe;have hr:=V8 (S4++[⟨n2,ga0 d.1⟩]) tk' (n2+1+ua3+ua4) iq eq _ d.1 od zp.fa;have bh:=apB_one (y:=ceW (qF.rat d.1)) ab i6 rfl md;have mz:Ob S'.length (S4++[⟨n2,ga0 d.1⟩])=S4:=by rw [<- hl2,<- qk]; simp
   simp (maxSteps:=10^6)+contextual(disch:=try exact dqd)only[evg1,simprocAttr,Ca,Bo,Cb,ga27,e0,e3,e4,e16,e17,c1,hw,ym,htj,gm,fj,hrc,zk,dm,hg1,zl,j6,zn,hwz,hg2,hE3,fw,hg3,uc,hP4,ud,xe,hr,bh,mz,Gq,xfs,puQ,tkQ,ga1,ga5,ovQ,ovQ2,Al,Av,D9,Ea];exact IH (S4,n2+1+ua3+ua4+ua11,Eh tk' cp,Ay tk' cp 4,j+1,out++[d.1],Cl fq (Cl y.2 (Cl z0.2 d.2))) _ aF ⟨rfl,aE,by rw [hR,jy _ yw]; simp only [C6,Co,Ct,Gr],by simp [oj],d9,by simpa only [Gr] using wh,aE,fun v hv ho=>by rw [hn4 v ho.1,cl v ho.1,bm v ho.1]; exact aw v hv ho,by rw [Ac a1l,Ac mu,Ac kw]; exact zk,Za0d⟩
 ·have c1:decide ((j:Int)<(t.rows.length:Int))=false:=by simpa using hjm
  have mh:t.rows.length - j=0:=aA
  rw [mh] at hR;simp only [Gg,Fj,F5] at hR;have hmf:J6 qF t=(out,Cl one.2 fq):=by unfold J6; rw [hR,<- cr]
  simp (maxSteps:=10^6)+contextual(disch:=try exact dqd)only[evg1,simprocAttr,Ca,Bo,Cb,ga27,e0,e3,e4,e16,e17,c1];rw [hΦ,hmf];have hT5:=hT.take (n:=S.length) (bc.of fun h=>h);exact ⟨_,n',tk',cp,rfl,dO,by simpa only [Gr] using hT5,fun v hv=>by
   by_cases jm:v<S.length
   ·rw [G6 jm]; exact aw v jm hv
   ·rw [Af,Af,C3 dO,C3 aA]⟩):p:=h
namespace QQ
theorem Aca:Ax15:=Ma15
end QQ
end
end
section
open Go Tryz
def Tq (i:Nat):List ByteArray->ByteArray->Int
 | [],_=>-1
 | x :: l,s=>if sEq x s then i else Tq (i+1) l s
theorem Ara (a b:ByteArray):sEq a b=sEq b a:=by
 unfold sEq; rw [iJ,beq_iff_eq,beq_iff_eq]; exact ⟨Eq.symm,Eq.symm⟩
section
variable (S:List Ent) (tk:List Nat) (k:Nat)
theorem Acr (l:List ByteArray) (s:ByteArray) (hlen:l.length<=1000000):cL prog 68 [.frz (l.map strC) .unk,.str s] S tk k=some (.int (Tq 0 l s),S,tk,k):=by
 refine opP func68 ntmps68 (hp3:=rfl) ?_;simp (maxSteps:=10^6)+contextual(disch:=try exact dqd)only[ev1,simprocAttr,Ca,Bo,Cb,results68];refine loop1 (P:=prog) (fun x st=>st.T.length=19/\(x<=l.length)/\(Tq 0 l s=Tq x (l.drop x) s)/\getT st.T 0=.frz (l.map strC) .unk/\getT st.T 1=.str s/\getT st.T 7=.int (l.length:Nat)/\getT st.T 8=.int (x:Nat)/\st.S=[]) (fun x=>l.length - x) (fun x=>.int (Tq 0 l s)) (0) ?_ ?_;case refine_2=>exact ⟨rfl,Ci _,rfl,rfl,rfl,rfl,rfl,rfl⟩
 rintro i ⟨T,S',tk',n'⟩ ⟨hl,hi,hA,e0,e1,e7,e8,eS⟩ IH;subst eS;obtain ⟨g,hg,hT⟩:=Ap hl;rw [hg] at e0 e1 e7 e8;subst hT;clear hg hl;by_cases la:i<l.length
 ·have d1:decide ((i:Int)<(l.length:Int))=true:=aZ
  obtain ⟨x,hx⟩:=Ab la;have hx':nth (l.map strC) i=some (strC x):=eP
  have hw:B8.wrap ((i:Int)+1)=((i+1:Nat):Int):=aS
  rw [Ax hx] at hA;simp only [Tq] at hA;have hcm:=Ara s x;cases hq:sEq x s <;> rw [hq] at hA hcm
  ·simp (maxSteps:=10^6)+contextual(disch:=try exact dqd)only[ev1,simprocAttr,Ca,Bo,Cb,results68,e0,e1,e7,e8,d1,hx',hw,strC,hq,hcm];exact IH (i+1) _ aF ⟨rfl,aE,by simpa using hA,rfl,rfl,rfl,rfl,rfl⟩
  ·simp (maxSteps:=10^6)+contextual(disch:=try exact dqd)only[ev1,simprocAttr,Ca,Bo,Cb,results68,e0,e1,e7,e8,d1,hx',hw,strC,hq,hcm];simpa using hA.symm
 ·have d1:decide ((i:Int)<(l.length:Int))=false:=aZ
  have he:i=l.length:=aA
  simp (maxSteps:=10^6)+contextual(disch:=try exact dqd)only[ev1,simprocAttr,Ca,Bo,Cb,results68,e0,e1,e7,e8,d1];rw [hA,he,Fp]; rfl
theorem Xs (l:List ByteArray) (s:ByteArray) (hlen:l.length<=1000000):cL prog 142 [.frz (l.map strC) .unk,.str s] S tk k=some (.int (Tq 0 l s),S,tk,k):=by
 have h:=fun S tk k=>Acr S tk k l s hlen;refine opP func142 ntmps142 (hp3:=rfl) ?_;simp (maxSteps:=10^6)+contextual(disch:=try exact dqd)only[ev1,simprocAttr,Ca,Bo,Cb,results142,h]
end
theorem U7:∀ {l:List ByteArray} {s:ByteArray} {i:Nat},s ∈ l->∃ j,j<l.length/\Tq i l s=((i+j:Nat):Int)/\nth l j=some s
 | [],_,_,h=>aR
 | x :: l,s,i,h=>by
  by_cases hx:sEq x s=true
  ·refine ⟨0,by simp,?_,?_⟩
   ·unfold Tq; rw [if_pos hx]; rfl
   ·have:x=s:=by rw [Q0] at hx; simpa using hx
    rw [this]; rfl
  ·rcases C4.1 h with rfl|h
   ·exact absurd (by rw [Q0]; simp) hx
   ·obtain ⟨j,h1,h2,h3⟩:=U7 (i:=i+1) h;refine ⟨j+1,aY,?_,h3⟩;unfold Tq; rw [if_neg hx,h2]; congr 1; omega
def idxV (vars:List ByteArray) (s:ByteArray):Nat:=(Tq 0 vars s).toNat
theorem P9 {l:List ByteArray} {s:ByteArray} (h:s ∈ l):Tq 0 l s=((idxV l s:Nat):Int)/\idxV l s<l.length:=by
 obtain ⟨j,h1,h2,h3⟩:=U7 (i:=0) h;unfold idxV;rw [h2];exact ⟨aA,aA⟩
def setC (F:Fld) (u z:Q) (ix:Nat) (row:List Q) (n:Int):List Q × Bool :=
 (put (put row (2*ix) (F.times u (F.whole n).1).1) (2*ix+1) (F.minus z (F.times u (F.whole n).1).1).1,((F.whole n).2 || (F.times u (F.whole n).1).2) || (F.minus z (F.times u (F.whole n).1).1).2)
def coefsC (F:Fld) (u z:Q) (vars:List ByteArray):List (ByteArray × Int)->List Q->List Q × Bool
 | [],row=>(row,false)
 | c :: cs,row=>((coefsC F u z vars cs (setC F u z (idxV vars c.1) row c.2).1).1,(setC F u z (idxV vars c.1) row c.2).2 || (coefsC F u z vars cs (setC F u z (idxV vars c.1) row c.2).1).2)
def Kn (F:Fld) (real W k:Nat) (c r:Q):Q × Bool:=if k<real\/k=W - 1 then F.minus c r else (c,false)
def costL (F:Fld) (real W:Nat):Nat->List Q->List Q->List Q × Bool
 | k,c :: cs,r :: rs=>((Kn F real W k c r).1 :: (costL F real W (k+1) cs rs).1,(Kn F real W k c r).2 || (costL F real W (k+1) cs rs).2)
 | _,cs,_=>(cs,false)
def Kz (F:Fld) (flip:Bool):Q × Bool:=if flip=true then ((F.whole (-1)).1,(F.whole 1).2 || (F.whole (-1)).2) else F.whole 1
def Vj (F:Fld) (u z:Q) (n:Int):Q × Bool:=((F.minus z (F.times u (F.whole n).1).1).1,((F.whole n).2 || (F.times u (F.whole n).1).2) || (F.minus z (F.times u (F.whole n).1).1).2)
def Q3 (eq:Bool) (row:List Q) (slack:Nat) (u:Q):List Q:=if eq=true then row else put row slack u
def Ee (r:RowT):Bool:=decide (0<r.2.1)
def rowF (F:Fld) (z:Q) (vars:List ByteArray) (real W i slack:Nat) (r:RowT):List Q × Bool :=
 let u:=Kz F (Ee r)
 let a:=coefsC F u.1 z vars r.1 (Cg W z)
 let y:=Vj F u.1 z r.2.1
 (put (put (Q3 r.2.2 a.1 slack u.1) (real+i) (F.whole 1).1) (W - 1) y.1,((u.2 || a.2) || (F.whole 1).2) || y.2)
def begS (F:Fld) (z:Q) (vars:List ByteArray) (real W:Nat):List RowT->Nat->Nat->Tb->Tb
 | [],_,_,t=>t
 | r :: l,i,slack,t =>
  let a:=rowF F z vars real W i slack r
  let c:=costL F real W 0 t.cost a.1
  begS F z vars real W l (i+1) (if r.2.2=true then slack else slack+1) { t with rows:=t.rows++[a.1],cost:=c.1,basis:=t.basis++[real+i],flip:=t.flip++[Ee r],fl:=(t.fl || a.2) || c.2 }
def neqs:List RowT->Nat
 | []=>0
 | r :: l=>(if r.2.2=true then 0 else 1)+neqs l
def Bz (F:Fld) (l:List RowT) (vars:List ByteArray) (fl:Bool):Tb :=
 let z:=F.whole 0
 let real:=2*vars.length+neqs l
 let W:=real+l.length+1
 begS F z.1 vars real W l 0 (2*vars.length) { vars:=vars.length,real:=real,rows:=[],cost:=Cg W z.1,basis:=[],flip:=[],fl:=fl || z.2 }
end
section
open Go
open Go.Proofs.YthelkgdmgihhiaaGreat renaming ceQ->ga0
set_option maxRecDepth 100000
abbrev Ax16 (p:Prop:=by exact ∀ {S S':List Ent}{iq eq:Nat}{I:TI}{t:Tb}{c c':Cap}{ir er ib eb id nr b:Nat}{f fl':Bool}{row:List Q}(h:Bf S iq eq I t c)(ag:entAt S' I.it I.et=some [.ifc ua0 (rcvQ iq eq),intA t.vars,intA t.real,.sref ir er 0 (t.rows.length+1) 1,.sref I.ic I.ec 0 t.cost.length ua2,.sref ib eb 0 (t.rows.length+1) 1,.frz ((t.flip++[f]).map Di) c'])(jx:entAt S' ir er=some ((I.ids++[(id,nr)]).map (dp t.cost.length ua2)))(ue:entAt S' ib eb=some ((t.basis++[b]).map intA))(bj:entAt S' id nr=some (flat ga0 row))(i6:row.length=t.cost.length)(lj:okL qF row)(j7:∀ p ∈ I.ids,nth S' p.1=nth S p.1)(m6:nth S' I.ic=nth S I.ic)(ff:FAq S' iq eq fl')(bh:Apart ⟨I.it,I.et,ir,er,I.ic,I.ec,ib,eb,I.ids++[(id,nr)]⟩ iq)(hm:t.rows.length+1<=1000000)(hb:b<t.cost.length),Bf S' iq eq ⟨I.it,I.et,ir,er,I.ic,I.ec,ib,eb,I.ids++[(id,nr)]⟩ { t with rows:=t.rows++[row],basis:=t.basis++[b],flip:=t.flip++[f],fl:=fl' } c'):=p
theorem Ma16 {p:Prop} (h:p:=by
 intro h ag jx ue bj i6 lj j7 m6 ff bh hm hb;have hlen:(t.rows++[row]).length=t.rows.length+1:=by simp
 refine ⟨?_,by simp [h.nids],fun _=>jx,fun i p r hp hr=>?_,fun r hr=>?_,?_,fun _=>ue,by simp [h.nb],by simp [h.nf],ff,bh,fun r hr=>?_,h.okc,h.bigW,by rw [hlen]; exact hm,h.real,fun x hx=>?_⟩
 ·rw [ag]; simp only [hlen,de]
 ·rw [Af] at hp hr;by_cases hi:i<I.ids.length
  ·rw [Cy hi,<- Af] at hp;rw [Cy (by rw [<- h.nids]; exact hi),<- Af] at hr;rw [Ac (j7 p (Aj hp))];exact h.rowE i p r hp hr
  ·have wi:i=I.ids.length:=by
    have:=(F9.1 hp).1;simp at this; omega
   rw [wi,Fi (Ce _),Oj] at hp;rw [wi,h.nids,Fi (Ce _),Oj] at hr;simp only [Oa,Bg] at hp hr;subst hp; subst hr;exact bj
 ·rcases Cu.1 hr with hr|hr
  ·exact h.rowW r hr
  ·simp only [Ft] at hr; subst hr; exact i6
 ·rw [Ac m6]; exact h.costE
 ·rcases Cu.1 hr with hr|hr
  ·exact h.okr r hr
  ·simp only [Ft] at hr; subst hr; exact lj
 ·rcases Cu.1 hx with hx|hx
  ·exact h.bB x hx
  ·simp only [Ft] at hx; subst hx; exact hb):p:=h
namespace QQ
theorem Bf.add:Ax16:=fun {S S' iq eq I t c c' ir er ib eb id nr b f fl' row}=>Ma16
structure Hd (S SS:List Ent) (iq eq:Nat) (I:TI) (t:Tb) (cp:Cap) (L nz n15 n16 n19:Nat) (z:Q) (r:RowT) (row:List Q) (u:Q):Prop where
 T:Bf SS iq eq I t cp
 low:LowQ I iq L t
 Z:entAt SS (S.length+1) nz=some (ceQ z)
 E15:entAt SS L n15=some (rowC r)
 E16:entAt SS (L+1) n16=some (flat ceQ row)
 E19:entAt SS (L+2) n19=some (ceQ u)
 len:SS.length=L+3
 fr:∀ j,j<S.length->j≠iq->nth SS j=nth S j
 qL:iq<S.length
 SL:S.length+3<=L
 ic:I.ic=S.length+2
end QQ
section
variable {S SS S':List Ent} {iq eq:Nat} {I:TI} {t:Tb} {cp:Cap} {L nz n15 n16 n19:Nat} {z u:Q} {r:RowT} {row:List Q}
abbrev Ax17 (p:Prop:=by exact ∀ {S SS S':List Ent}{iq eq:Nat}{I:TI}{t:Tb}{cp:Cap}{L nz n15 n16 n19:Nat}{z u:Q}{r:RowT}{row:List Q}{fl':Bool}(h:Hd S SS iq eq I t cp L nz n15 n16 n19 z r row u)(hS:∀ j,j≠iq->nth S' j=nth SS j)(hl:S'.length=SS.length)(hf:FAq S' iq eq fl'),Hd S S' iq eq I { t with fl:=fl' } cp L nz n15 n16 n19 z r row u):=p
theorem Ma17 {p:Prop} (h:p:=by
 intro h hS hl hf;have hq:=h.qL;have hL:=h.SL;exact ⟨h.T.flag hS hf,h.low.of fun h=>h,by rw [Ac (hS _ aA)]; exact h.Z,by rw [Ac (hS _ aA)]; exact h.E15,by rw [Ac (hS _ aA)]; exact h.E16,by rw [Ac (hS _ aA)]; exact h.E19,by rw [hl]; exact h.len,fun j h1 h2=>by rw [hS j h2]; exact h.fr j h1 h2,hq,hL,h.ic⟩):p:=h
namespace QQ
theorem Hd.flag:Ax17:=fun {S SS S' iq eq I t cp L nz n15 n16 n19 z u r row fl'}=>Ma17
end QQ
abbrev Ax18 (p:Prop:=by exact ∀ {S SS:List Ent}{iq eq:Nat}{I:TI}{t:Tb}{cp:Cap}{L nz n15 n16 n19:Nat}{z u:Q}{r:RowT}{row:List Q}(h:Hd S SS iq eq I t cp L nz n15 n16 n19 z r row u)(row':List Q),Hd S (put SS (L+1) ⟨n16,flat ga0 row'⟩) iq eq I t cp L nz n15 n16 n19 z r row' u):=p
theorem Ma18 {p:Prop} (h:p:=by
 intro h row';have hq:=h.qL;have hL:=h.SL;have hl:=h.len;have key:∀ j,j≠L+1->nth (Go.Proofs.YthelkgdmgihhiaaGreat.put SS (L+1) ⟨n16,flat ga0 row'⟩) j=nth SS j:=fun j hj=>Ae (I8 hj);have hT:=h.T.frame (S':=Go.Proofs.YthelkgdmgihhiaaGreat.put SS (L+1) ⟨n16,flat ga0 row'⟩) (fl':=t.fl) h.low (fun j h1 h2=>key j aA) (h.T.fa.put aA);exact ⟨hT,h.low,Za6u,Za6s,Ah aA,by rw [Ac (key _ aA)]; exact h.E19,by rw [Am]; exact hl,fun j h1 h2=>Za6p,hq,hL,h.ic⟩):p:=h
namespace QQ
theorem Hd.put:Ax18:=fun {S SS iq eq I t cp L nz n15 n16 n19 z u r row}=>Ma18
end QQ
abbrev Ax19 (p:Prop:=by exact ∀ {S SS:List Ent}{iq eq:Nat}{I:TI}{t:Tb}{cp:Cap}{L nz n15 n16 n19:Nat}{z u:Q}{r:RowT}{row:List Q}(h:Hd S SS iq eq I t cp L nz n15 n16 n19 z r row u)(u':Q),Hd S (Go.Proofs.YthelkgdmgihhiaaGreat.put SS (L+2) ⟨n19,ga0 u'⟩) iq eq I t cp L nz n15 n16 n19 z r row u'):=p
theorem Ma19 {p:Prop} (h:p:=by
 intro h u';have hq:=h.qL;have hL:=h.SL;have hl:=h.len;have key:∀ j,j≠L+2->nth (Go.Proofs.YthelkgdmgihhiaaGreat.put SS (L+2) ⟨n19,ga0 u'⟩) j=nth SS j:=fun j hj=>Ae (I8 hj);have hT:=h.T.frame (S':=Go.Proofs.YthelkgdmgihhiaaGreat.put SS (L+2) ⟨n19,ga0 u'⟩) (fl':=t.fl) h.low (fun j h1 h2=>key j aA) (h.T.fa.put aA);exact ⟨hT,h.low,Za6u,Za6s,by rw [Ac (key _ aA)]; exact h.E16,Ah aA,by rw [Am]; exact hl,fun j h1 h2=>Za6p,hq,hL,h.ic⟩):p:=h
namespace QQ
theorem Hd.unit:Ax19:=fun {S SS iq eq I t cp L nz n15 n16 n19 z u r row}=>Ma19
end QQ
abbrev Ax20 (p:Prop:=by exact ∀ {S SS:List Ent}{iq eq:Nat}{I:TI}{t:Tb}{cp:Cap}{L nz n15 n16 n19:Nat}{z u:Q}{r:RowT}{row:List Q}{k':List Q}(h:Hd S SS iq eq I t cp L nz n15 n16 n19 z r row u)(hk:k'.length=t.cost.length)(ho:okL qF k'),Hd S (Go.Proofs.YthelkgdmgihhiaaGreat.put SS I.ic ⟨I.ec,flat ga0 k'⟩) iq eq I { t with cost:=k' } cp L nz n15 n16 n19 z r row u):=p
theorem Ma20 {p:Prop} (h:p:=by
 intro h hk ho;have hq:=h.qL;have hL:=h.SL;have hl:=h.len;have hic:=h.ic;have key:∀ j,j≠I.ic->nth (Go.Proofs.YthelkgdmgihhiaaGreat.put SS I.ic ⟨I.ec,flat ga0 k'⟩) j=nth SS j:=fun j hj=>Ae (I8 hj);have hT:=h.T.setCost (S':=Go.Proofs.YthelkgdmgihhiaaGreat.put SS I.ic ⟨I.ec,flat ga0 k'⟩) (fl':=t.fl) hk ho (fun j h1 h2=>key j h1) (Ah aA) (h.T.fa.put aA);exact ⟨hT,h.low.of fun h=>h,Za6u,Za6s,by rw [Ac (key _ aA)]; exact h.E16,by rw [Ac (key _ aA)]; exact h.E19,by rw [Am]; exact hl,fun j h1 h2=>Za6p,hq,hL,h.ic⟩):p:=h
namespace QQ
theorem Hd.cost:Ax20:=fun {S SS iq eq I t cp L nz n15 n16 n19 z u r row k'}=>Ma20
end QQ
end
end
section
open Go
def P4:Code->Nat
 | .seq a _=>P4 a
 | .region id _ _=>id
 | .block _ c=>P4 c
 | .loop c=>P4 c
 | .scope c=>P4 c
 | _=>0
def Ma (n:Nat):Code->List Nat->List Kont->Option (Code × List Kont)
 | .seq a b,lv,k=>match Ma n a lv (.seq b :: k) with|some r=>some r|none=>Ma n b lv k
 | .block id c,lv,k=>Ma n c lv (.block id :: k)
 | .scope c,lv,k=>Ma n c lv k
 | .cond _ a b,lv,k=>match Ma n a lv k with|some r=>some r|none=>Ma n b lv k
 | .loop c,lv,k=>if (P4 c == n)=true then some (.loop c,k) else match lv with
  | x :: lv=>Ma n c lv (.loop c x :: k)
  | []=>none
 | _,_,_=>none
def Amp (fn:Func) (n:Nat) (lv:List Nat):Option (Code × List Kont):=match fn.body with|some c=>Ma n c lv []|none=>none
section
variable [Globs] {P:Program} [Ext P] {fn:Func}
noncomputable def KA (P:Program) [Ext P] (fn:Func) (n:Nat) (lv:List Nat) (st:St):Option (AV × St):=match Amp fn n lv with|some (c,k)=>RK P fn c st k|none=>none
theorem Wl {n:Nat} {lv:List Nat} {c:Code} {k:List Kont} (h:Amp fn n lv=some (c,k)) {st:St} {fin:Option (AV × St)->Option Rs} {Φ:Rs->Prop} {t:Tag (c,k)} (hg:Gd fin Φ (KX P fn c st k t)):Gd fin Φ (KA P fn n lv st):=by unfold KA; rw [h]; exact hg
theorem Me {n:Nat} {lv:List Nat} {c:Code} {k:List Kont} (h:Amp fn n lv=some (c,k)) {st:St} {fin:Option (AV × St)->Option Rs} {Φ:Rs->Prop} {t:Tag (c,k)} (hg:Gd fin Φ (KA P fn n lv st)):Gd fin Φ (KX P fn c st k t):=by unfold KA at hg; rw [h] at hg; exact hg
end
theorem Pc:∀ l:List RowT,neqs l<=l.length
 | []=>Ce _
 | r :: l=>by
  have:=Pc l;unfold neqs;split <;> simp only [Cj] <;> omega
theorem Qn {l:List RowT} {q:Nat} {r:RowT} (h:nth l q=some r):neqs (l.drop q)=(if r.2.2=true then 0 else 1)+neqs (l.drop (q+1)):=by
 rw [Ax h]; rfl
section
variable {P:Program} {t:TypeId} {x:AV} {S:List Ent} {n:Nat}
theorem Qj {a b c d e:Nat} : lit1 1 1 [(0,.sref a b c d e)]=some (.lit 1 [.sref a b c d e]):=rfl
theorem Akl (h:apT P t=some 1) (hx:leafOk x=true):apO P t (.frz [] .nilc) (.lit 1 [x]) S n=some (.sref S.length n 0 1 1,S++[⟨n,[x]⟩],n+1):=by
 have hl:litC 1 (.lit 1 [x])=some (1,[x]):=by simp [litC,hx]
 exact Ya1s
theorem Akk {c:Cap} (h:apT P t=some 1) (hx:leafOk x=true):apO P t (.frz [] .nilc) (.frz [[x]] c) S n=some (.sref S.length n 0 1 1,S++[⟨n,[x]⟩],n+1):=by
 have hl:litC 1 (.frz [[x]] c)=some (1,[x]):=by simp [litC,hx,B2]
 exact Ya1s
theorem Aff {id ep len:Nat} {cs:List AV} (h:apT P t=some 1) (hx:leafOk x=true) (hE:entAt S id ep=some cs) (hc:cs.length=len) (h0:0<len) (h1:len+1<=1048576):apO P t (.sref id ep 0 len 1) (.lit 1 [x]) S n=some (.sref id n 0 (len+1) 1,put S id ⟨n,cs++[x]⟩,n+1):=by
 have hl:litC 1 (.lit 1 [x])=some (1,[x]):=by simp [litC,hx]
 exact Ya1f
theorem Afe {id ep len:Nat} {cs:List AV} {c:Cap} (h:apT P t=some 1) (hx:leafOk x=true) (hE:entAt S id ep=some cs) (hc:cs.length=len) (h0:0<len) (h1:len+1<=1048576):apO P t (.sref id ep 0 len 1) (.frz [[x]] c) S n=some (.sref id n 0 (len+1) 1,put S id ⟨n,cs++[x]⟩,n+1):=by
 have hl:litC 1 (.frz [[x]] c)=some (1,[x]):=by simp [litC,hx,B2]
 exact Ya1f
end
structure BegC (S:List Ent) (l:List RowT) (vars:List ByteArray) (iq c W:Nat):Prop where
 hl:l.length<=1000
 ly:vars.length<=1000
 hv:∀ r ∈ l,∀ c ∈ r.1,c.1 ∈ vars
 hc:∀ r ∈ l,i64 r.2.1/\∀ c ∈ r.1,i64 c.2
 gi:fewC l
 py:iq<S.length
 wj:c=2*vars.length+neqs l
 ql:W=c+l.length+1
namespace QQ
def Ajl (S:List Ent) (l:List RowT) (vars:List ByteArray) (fl:Bool) (k iq eq c W nz:Nat) (z:Q) (i:Nat) (st:St):Prop :=
 ∃ sl t1 I cp,i<=l.length/\Bz qF l vars fl=begS qF z vars c W (l.drop i) i sl t1/\Bf st.S iq eq I t1 cp/\t1.rows.length=i/\t1.cost.length=W/\t1.real=c/\t1.vars=vars.length/\sl+neqs (l.drop i)=c/\Be st.tk cp 1=true/\entAt st.S (S.length+1) nz=some (ceQ z)/\S.length+3<=st.S.length/\(∀ j,j<S.length->j≠iq->nth st.S j=nth S j)/\(I.it=S.length/\I.et=k/\I.ic=S.length+2)/\(S.length+2<I.ir/\S.length+2<I.ib/\∀ p ∈ I.ids,S.length+2<p.1) /\
  st.T.length=270/\getT st.T 0=.ifc 118 (rcvQ iq eq)/\getT st.T 1=.frz (l.map rowC) .unk/\getT st.T 2=.frz (vars.map strC) .unk/\getT st.T 7=.ref S.length k 0/\getT st.T 10=.int (sl:Nat)/\getT st.T 11=.int (W:Nat)/\getT st.T 12=.ref (S.length+1) nz 0/\getT st.T 83=.frz (l.map rowC) .unk/\getT st.T 84=.int (l.length:Nat)/\getT st.T 85=.int (i:Nat)
end QQ
end
end Go.Proofs.YthelkgdmgihhiaaGreat
