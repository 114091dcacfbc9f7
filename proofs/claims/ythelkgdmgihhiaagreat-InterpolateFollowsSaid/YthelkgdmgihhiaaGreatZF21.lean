/- Part 21. -/
import Derived.Test.YthelkgdmgihhiaaGreatZF20
open Bool renaming and_eq_true->Ch,false_and->Fo,true_and->Fq,not_true->Fs,not_false->Fu
open Go.Proofs.YthelkgdmgihhiaaGreat.AV renaming bool->Bo,int->Ca,str->Cb
open List renaming length_cons->Cj,map_cons->Cm,length_append->Cn,map_nil->Cp,mem_cons_self->Cq,nil_append->Ct,mem_append->Cu,length_nil->Cv,mem_cons->C4,append_assoc->C6,take_length->C8,map_append->C9,all_eq_true->Fc,length_map->Fg,append_nil->Fj,drop_length->Fp,mem_singleton->Ft,flatten_cons->Fw,drop_zero->Fz,pairwise_cons->Ib,length_take->Im,take->Ob,singleton_append->Sq,all_cons->Sw,flatten_nil->S8,not_mem_nil->kH,lt_irrefl->lH,map_take->lK,Pairwise->lM
open Nat renaming zero_le->Ci,le_trans->Fh,zero_add->Fk
open Option renaming map_eq_some_iff->Cd,bind_some->Ov
open Option.some renaming injEq->Bg
open Prod.mk renaming injEq->Cf
namespace Go.Proofs.YthelkgdmgihhiaaGreat
section
open Go Tryz
set_option maxRecDepth 100000
def Lt (l:List RowT):List ByteArray:=if sysE l=0 then Dx l else []
theorem Mv (l:List RowT):(Lt l).length<=24:=by
 unfold Lt;split
 ·rename_i h; exact (Hc h).2.2.1
 ·simp
theorem Aon (l:List RowT):Inc (Lt l):=by
 unfold Lt;split
 ·exact Z1 l
 ·exact lM.nil
def ixS (s:ByteArray):List ByteArray->Nat->Int
 | [],_=>-1
 | x :: l,i=>if sEq s x=true then (i:Int) else ixS s l (i+1)
def memS (s:ByteArray) (l:List ByteArray):Bool:=l.any fun x=>sEq s x
theorem Ar6 (s:ByteArray):∀ (l:List ByteArray) (i:Nat),decide (ixS s l i >= 0)=memS s l
 | [],_=>rfl
 | x :: l,i=>by
  unfold ixS memS;rw [List.any_cons];cases h:sEq s x with
  | true=>rw [if_pos rfl]; simp
  | false=>rw [if_neg (by simp),Ar6 s l]; rfl
def R2 (a b:List RowT):List ByteArray:=(Lt a).filter fun s=>memS s (Lt b)
def Awv (s:ByteArray) (l:List ByteArray):List ByteArray:=if memS s l=true then [s] else []
def W0 (s:ByteArray) (l:List ByteArray):List ByteArray:=(l.filter fun x=>sEq s x).map fun _=>s
theorem Acn {s:ByteArray} : ∀ {l:List ByteArray},Inc l->W0 s l=Awv s l
 | [],_=>rfl
 | x :: l,h=>by
  have hp:=Ib.1 h;have ih:=Acn (s:=s) hp.2;unfold W0 Awv memS at *;rw [List.filter_cons,List.any_cons];cases e:sEq s x with
  | false=>rw [if_neg (by simp)]; simpa using ih
  | true =>
   have e2:=Q1.1 e;have tf:∀ y ∈ l,¬ sEq s y=true:=fun y hy h'=>by
    have:=hp.1 y hy;rw [<- e2,<- Q1.1 h'] at this;exact Ya4h
   rw [if_pos rfl,List.filter_eq_nil_iff.2 tf];simp
theorem P7 {α:Type} {p:α->Bool} {l:List α} {x:α} : (l++[x]).filter p=l.filter p++(if p x=true then [x] else []):=by
 rw [List.filter_append];congr 1;cases h:p x <;> simp [h]
section
variable (S:List Ent) (tk:List Nat) (k:Nat)
theorem Q2 (l:List RowT) (bw:∀ r ∈ l,r.1.length<=1048576):cL prog 27 [Ao l] S tk k=some (Aq (Lt l),S,tk,k):=by
 unfold Lt;by_cases h:sysE l=0
 ·rw [if_pos h]; exact Tl S tk k l h
 ·have hC:=fun S tk k=>Hp S tk k l bw;have d0:(sysE l != 0)=true:=aO
  rw [if_neg h];simp only [Ao] at hC;refine opP func27 ntmps27 (hp3:=rfl) ?_;simp (maxSteps:=10^6)+contextual(disch:=try exact dqd)only[ev1,simprocAttr,Ca,Bo,Cb,results27,Ao,Aq,Cp,hC,d0]
theorem Aac (l:List RowT) (bw:∀ r ∈ l,r.1.length<=1048576):cL prog 32 [Ao l] S tk k=some (Aq (Lt l),S,tk,k):=by
 unfold Lt;by_cases h:sysE l=0
 ·rw [if_pos h]; exact Ao3 S tk k l h
 ·have hC:=fun S tk k=>Lv S tk k l bw;have d0:(sysE l != 0)=true:=aO
  rw [if_neg h];simp only [Ao] at hC;refine opP func32 ntmps32 (hp3:=rfl) ?_;simp (maxSteps:=10^6)+contextual(disch:=try exact dqd)only[ev1,simprocAttr,Ca,Bo,Cb,results32,Ao,Aq,Cp,hC,d0]
theorem Zs (l:List ByteArray) (s:ByteArray) (hl:l.length<=1000000):cL prog 68 [Aq l,.str s] S tk k=some (.int (ixS s l 0),S,tk,k):=by
 refine opP func68 ntmps68 (hp3:=rfl) ?_;simp (maxSteps:=10^6)+contextual(disch:=try exact dqd)only[ev1,simprocAttr,Ca,Bo,Cb,results68,Aq];refine loop1 (P:=prog) (fun x st=>st.T.length=19/\(x<=l.length)/\(ixS s l 0=ixS s (l.drop x) x)/\getT st.T 0=Aq l/\getT st.T 1=.str s/\getT st.T 7=.int (l.length:Nat)/\getT st.T 8=.int (x:Nat)/\st.S=[]) (fun x=>l.length - x) (fun x=>.int (ixS s l 0)) (0) ?_ ?_;case refine_2=>exact ⟨rfl,Ci _,rfl,rfl,rfl,rfl,rfl,rfl⟩
 rintro i ⟨T,S',tk',n'⟩ ⟨hl,hi,fh,e0,e1,e7,e8,eS⟩ IH;subst eS;obtain ⟨g,hg,hT⟩:=Ap hl;rw [hg] at e0 e1 e7 e8;subst hT;clear hg hl;have bg:=Aw (i:=i) aA;by_cases la:i<l.length
 ·have d1:decide ((i:Int)<(l.length:Int))=true:=aZ
  obtain ⟨x,hx⟩:=Ab la;have hx':=Li hx;rw [Ax hx,ixS] at fh;cases h:sEq s x with
  | true =>
   rw [if_pos h] at fh;simp (maxSteps:=10^6)+contextual(disch:=try exact dqd)only[ev1,simprocAttr,Ca,Bo,Cb,results68,e0,e1,e7,e8,d1,Aq,strC,hx',h,fh]
  | false =>
   rw [if_neg (by rw [h]; simp)] at fh;simp (maxSteps:=10^6)+contextual(disch:=try exact dqd)only[ev1,simprocAttr,Ca,Bo,Cb,results68,e0,e1,e7,e8,d1,Aq,strC,hx',h,bg];exact IH (i+1) _ aF ⟨rfl,aE,fh,bG,bG,bG,bG,bG⟩
 ·have d1:decide ((i:Int)<(l.length:Int))=false:=aZ
  have fv:i=l.length:=aA
  rw [fv,Fp,ixS] at fh;simp (maxSteps:=10^6)+contextual(disch:=try exact dqd)only[ev1,simprocAttr,Ca,Bo,Cb,results68,e0,e1,e7,e8,d1,Aq,fh]
theorem Tv (l:List ByteArray) (s:ByteArray) (hl:l.length<=1000000):cL prog 31 [Aq l,.str s] S tk k=some (.bool (memS s l),S,tk,k):=by
 have hI:=fun S tk k=>Zs S tk k l s hl;have hg:=Ar6 s l 0;simp only [Aq] at hI;refine opP func31 ntmps31 (hp3:=rfl) ?_;simp (maxSteps:=10^6)+contextual(disch:=try exact dqd)only[ev1,simprocAttr,Ca,Bo,Cb,results31,Aq,hI,hg]
theorem Y3 (a b:List RowT) (ha:∀ r ∈ a,r.1.length<=1048576) (hb:∀ r ∈ b,r.1.length<=1048576):cL prog 11 [Ao a,Ao b] S tk k=some (Aq (R2 a b),S,tk,k):=by
 have hA:=fun S tk k=>Q2 S tk k a ha;have hB:=fun S tk k=>Q2 S tk k b hb;have f1:=Mv a;have f2:=Mv b;have hs:R2 a b=(Lt a).filter fun s=>memS s (Lt b):=rfl;rw [hs];clear hs;generalize Lt a=u at *;generalize Lt b=w at *;simp only [Ao,Aq] at hA hB;refine opP func11 ntmps11 (hp3:=rfl) ?_;simp (maxSteps:=10^6)+contextual(disch:=try exact dqd)only[ev1,simprocAttr,Ca,Bo,Cb,results11,Ao,Aq,hA,hB];refine loop1 (P:=prog) (fun x st=>st.T.length=27/\(x.1<=u.length)/\(Be st.tk x.2 1=true)/\getT st.T 5=Aq w/\getT st.T 6=.frz (((u.take x.1).filter fun s=>memS s w).map strC) x.2/\getT st.T 12=Aq u/\getT st.T 13=.int (u.length:Nat)/\getT st.T 14=.int (x.1:Nat)/\st.S=[]) (fun x=>u.length - x.1) (fun x=>Aq (u.filter fun s=>memS s w)) (0,.nilc) ?_ ?_;case refine_2=>exact ⟨rfl,Ci _,rfl,rfl,rfl,rfl,rfl,rfl,rfl⟩
 rintro ⟨i,c⟩ ⟨T,S',tk',n'⟩ ⟨hl,hi,ab,e5,e6,e12,e13,e14,eS⟩ IH;simp only at hi ab e5 e6 e12 e13 e14 eS;subst eS;obtain ⟨g,hg,hT⟩:=Ap hl;rw [hg] at e5 e6 e12 e13 e14;subst hT;clear hg hl;have bg:=Aw (i:=i) aA;by_cases la:i<u.length
 ·have d1:decide ((i:Int)<(u.length:Int))=true:=aZ
  obtain ⟨x,hx⟩:=Ab la;have hx':=Li hx;have hC:=fun S tk k=>Tv S tk k w x aA;have pu:=B3 hx;have hle:((u.take i).filter fun s=>memS s w).length<=u.length:=Fh (List.length_filter_le ..) aC;have hr:=Gs ((u.take i).filter fun s=>memS s w);have am:=Ba ab;have hn:((((u.take i).filter fun s=>memS s w)).map strC).length+1<=1048576:=Za2x
  simp only [Aq] at hC;cases hm:memS x w with
  | true =>
   rw [hm] at hC;have he:((u.take (i+1)).filter fun s=>memS s w)=((u.take i).filter fun s=>memS s w)++[x]:=by rw [pu,P7,hm,if_pos rfl]
   simp (maxSteps:=10^6)+contextual(disch:=try exact dqd)only[ev1,simprocAttr,Ca,Bo,Cb,results11,e5,e6,e12,e13,e14,d1,Aq,hx',hC,bg,hr];exact IH (i+1,Ay tk' c 1) _ aF ⟨rfl,aE,am,bF,bF,bF,bF,bF,bF⟩
  | false =>
   rw [hm] at hC;have he:((u.take (i+1)).filter fun s=>memS s w)=((u.take i).filter fun s=>memS s w):=by rw [pu,P7,hm,if_neg (by simp),Fj]
   simp (maxSteps:=10^6)+contextual(disch:=try exact dqd)only[ev1,simprocAttr,Ca,Bo,Cb,results11,e5,e6,e12,e13,e14,d1,Aq,hx',hC,bg];exact IH (i+1,c) _ aF ⟨rfl,aE,ab,bF,bF,bF,bF,bF,bF⟩
 ·have d1:decide ((i:Int)<(u.length:Int))=false:=aZ
  have fv:i=u.length:=aA
  subst fv;rw [C8] at e6;simp (maxSteps:=10^6)+contextual(disch:=try exact dqd)only[ev1,simprocAttr,Ca,Bo,Cb,results11,e5,e6,e12,e13,e14,d1,Aq]
theorem Ahr (a b:List RowT) (ha:∀ r ∈ a,r.1.length<=1048576) (hb:∀ r ∈ b,r.1.length<=1048576):cL prog 12 [Ao a,Ao b] S tk k=some (Aq (R2 a b),S,tk,k):=by
 have hA:=fun S tk k=>Aac S tk k a ha;have hB:=fun S tk k=>Aac S tk k b hb;have f1:=Mv a;have f2:=Mv b;have f3:=Aon b;have hs:R2 a b=(Lt a).filter fun s=>memS s (Lt b):=rfl;rw [hs];clear hs;generalize Lt a=u at *;generalize Lt b=w at *;simp only [Ao,Aq] at hA hB;refine opP func12 ntmps12 (hp3:=rfl) ?_;simp (maxSteps:=10^6)+contextual(disch:=try exact dqd)only[ev1,simprocAttr,Ca,Bo,Cb,results12,Ao,Aq,hA,hB];refine loop1 (P:=prog) (fun x st=>st.T.length=43/\(x.1<=u.length)/\(Be st.tk x.2 1=true)/\getT st.T 5=.frz (((u.take x.1).filter fun s=>memS s w).map strC) x.2/\getT st.T 6=Aq u/\getT st.T 7=Aq w/\getT st.T 8=.int (x.1:Nat)/\st.S=[]) (fun x=>u.length - x.1) (fun x=>Aq (u.filter fun s=>memS s w)) (0,.nilc) ?_ ?_;case refine_2=>exact ⟨rfl,Ci _,rfl,rfl,rfl,rfl,rfl,rfl⟩
 rintro ⟨i,c⟩ ⟨T,S',tk',n'⟩ ⟨hl,hi,ab,e5,e6,e7,e8,eS⟩ IH;simp only at hi ab e5 e6 e7 e8 eS;subst eS;obtain ⟨g,hg,hT⟩:=Ap hl;rw [hg] at e5 e6 e7 e8;subst hT;clear hg hl;have OUT:=IH;clear IH;have bg:=Aw (i:=i) aA;by_cases la:i<u.length
 ·have d1:decide ((i:Int)<(u.length:Int))=true:=aZ
  obtain ⟨z,hx⟩:=Ab la;have hx':=Li hx;have pu:=B3 hx;have hle:((u.take i).filter fun s=>memS s w).length<=u.length:=Fh (List.length_filter_le ..) aC;generalize hO:((u.take i).filter fun s=>memS s w)=O at *;simp (maxSteps:=10^6)+contextual(disch:=try exact dqd)only[ev1,simprocAttr,Ca,Bo,Cb,results12,e5,e6,e7,e8,d1,Aq];refine loop1 (P:=prog) (fun x st=>st.T.length=43/\(x.1<=w.length)/\(Be st.tk x.2.2 1=true)/\(x.2.1=O++W0 z (w.take x.1))/\getT st.T 5=.frz (x.2.1.map strC) x.2.2/\getT st.T 6=Aq u/\getT st.T 7=Aq w/\getT st.T 8=.int (i:Nat)/\getT st.T 9=.int (x.1:Nat)/\st.S=[]) (fun x=>w.length - x.1) (fun x=>Aq (u.filter fun s=>memS s w)) (0,O,c) ?_ ?_;case refine_2=>exact ⟨rfl,Ci _,ab,by simp [W0],rfl,rfl,rfl,rfl,rfl,rfl⟩
  rintro ⟨j,o,c2⟩ ⟨T,S',tk',n'⟩ ⟨hl,hj,d9,ho,e5,e6,e7,e8,e9,eS⟩ IH;simp only at hj d9 ho e5 e6 e7 e8 e9 eS;subst eS;obtain ⟨g,hg,hT⟩:=Ap hl;rw [hg] at e5 e6 e7 e8 e9;subst hT;clear hg hl;have ru:=Aw (i:=j) aA;have oj:o.length<=48:=by
   have:(W0 z (w.take j)).length<=w.length:=by
    unfold W0;rw [Fg];exact Fh (List.length_filter_le ..) aC
   rw [ho,Cn]; omega
  by_cases lb:j<w.length
  ·have d2:decide ((j:Int)<(w.length:Int))=true:=cE
   obtain ⟨y,hy⟩:=Ab lb;have eg:=Li hy;have hty:=B3 hy;have hr:=Gs o;have am:=Ba d9;have hn:(o.map strC).length+1<=1048576:=Za2x
   cases hm:sEq z y with
   | true =>
    have hq:o++[z]=O++W0 z (w.take (j+1)):=by
     unfold W0 at ho ⊢;rw [hty,P7,hm,if_pos rfl,C9,<- C6,<- ho]; rfl
    simp (maxSteps:=10^6)+contextual(disch:=try exact dqd)only[ev1,simprocAttr,Ca,Bo,Cb,results12,e5,e6,e7,e8,e9,d2,Aq,strC,hx',eg,hm,ru,hr];exact IH (j+1,o++[z],Ay tk' c2 1) _ aF ⟨rfl,aE,am,hq,bG,bG,bG,bG,bG,bG⟩
   | false =>
    have hq:o=O++W0 z (w.take (j+1)):=by
     unfold W0 at ho ⊢;rw [hty,P7,hm,if_neg (by simp),Fj,<- ho]
    simp (maxSteps:=10^6)+contextual(disch:=try exact dqd)only[ev1,simprocAttr,Ca,Bo,Cb,results12,e5,e6,e7,e8,e9,d2,Aq,strC,hx',eg,hm,ru];exact IH (j+1,o,c2) _ aF ⟨rfl,aE,d9,hq,bG,bG,bG,bG,bG,bG⟩
  ·have d2:decide ((j:Int)<(w.length:Int))=false:=cE
   have rj:j=w.length:=aA
   subst rj;have he:o=((u.take (i+1)).filter fun s=>memS s w):=by
    rw [C8,Acn f3] at ho;rw [pu,P7,hO,ho]; rfl
   simp (maxSteps:=10^6)+contextual(disch:=try exact dqd)only[ev1,simprocAttr,Ca,Bo,Cb,results12,e5,e6,e7,e8,e9,d2,Aq,bg];exact OUT (i+1,c2) _ aF ⟨rfl,aE,d9,bF,bF,bF,bF,bF⟩
 ·have d1:decide ((i:Int)<(u.length:Int))=false:=aZ
  have fv:i=u.length:=aA
  subst fv;rw [C8] at e5;simp (maxSteps:=10^6)+contextual(disch:=try exact dqd)only[ev1,simprocAttr,Ca,Bo,Cb,results12,e5,e6,e7,e8,d1,Aq]
end
end
section
open Go
end
section
open Go
inductive PT where
 | node (op:Int) (name:ByteArray) (n:Int) (kids:List PT)
mutual
def Aui:PT->List AV
 | .node o s n ks=>[.prim (.int .i64 o),.prim (.string s),.prim (.int .i64 n),.frz (At5 ks) .unk]
def At5:List PT->List (List AV)
 | []=>[]
 | k :: ks=>Aui k :: At5 ks
end
def PT.op:PT->Int|.node o _ _ _=>o
def PT.name:PT->ByteArray|.node _ s _ _=>s
def PT.n:PT->Int|.node _ _ n _=>n
def bE:ByteArray:=⟨#[]⟩
theorem Axn {P:Program} {t:TypeId} {sz n:Nat} {es:List (List AV)} {c:Cap} (hs:(A6 P t).bind (szOf P)=some sz) (hr:B2 sz es=true) (h:n<=es.length):Gw P t (.frz es c) none (some (.prim (.int .i64 (n:Nat)))) none=some (.frz (es.take n) .unk):=by
 have e:bound es.length (some (.prim (.int .i64 (n:Nat)))) es.length=some n:=by
  unfold bound;dsimp only;rw [intN_cast];dsimp only;rw [if_pos h]
 have e2:bound n (none:Option AV) 0=some 0:=rfl;simp only [Gw,hs,hr,if_true,e,e2,Fz]
end
section
open Go Tryz
set_option maxHeartbeats 8000000
set_option maxRecDepth 100000
theorem Aog {cs:List (ByteArray × Int)} {n:Int} {eq:Bool} {m:Nat} (h:cs.length<=m) (hm:m<=24):(Q5 cs n eq).1.length<=1048576:=by
 unfold Q5;split
 ·split
  ·split <;> simp
  ·split
   ·simp
   ·simp only [Fg]; omega
 ·simp only; omega
noncomputable def resG (a:List RowT) (vs:List ByteArray) (f:ByteArray->Int) (nn:Int):RowT × Int :=
 if vs.all (fun v=>inZ (f v))=true then
  if inZ nn=true then
   if E3 a (Q5 (outF f vs) nn false)=true then (Q5 (outF f vs) nn false,0) else (([],0,false),2)
  else (([],0,false),2)
 else (([],0,false),2)
section
variable (S:List Ent) (tk:List Nat) (k:Nat)
theorem Au1 {A:List (List AV)} {c:Cap} {n:Int} : cL prog 29 [.agg [.frz A c,.int n,.bool false]] S tk k=cL prog 29 [.agg [.frz A .unk,.int n,.bool false]] S tk k:=P0 rfl rfl rfl
theorem Abr (a b:List RowT) (la:a.length<=6) (lb:b.length<=6) (hla:∀ r ∈ a,r.1.length<=1048576) (vs:List ByteArray) (hvl:vs.length<=24) (f:ByteArray->Int) (nn:Int) (ms ms':List BigT)
  (rg:ms.length=a.length+b.length) (hml':ms'.length=a.length+b.length) (hI0:∀ v ∈ vs,∀ S tk k,cL prog 28 [zA (f v)] S tk k=some (.tup [.int (intZ (f v)),.bool (inZ (f v))],S,tk,k)) (hN:∀ S tk k,cL prog 28 [zA nn] S tk k=some (.tup [.int (intZ nn),.bool (inZ nn)],S,tk,k))
  (a4p:∀ S tk k,cL prog 29 [rowA (outF f vs) nn false] S tk k=some (.agg (rowC (Q5 (outF f vs) nn false)),S,tk,k))
  (hF:∀ S tk k,cL prog 23 [Ao (a++b)] S tk k=some (.tup [.bool false,.int 0],S,tk,k))
  (hR:∀ S tk k,cL prog 24 [Ao (a++b)] S tk k=some (.tup [H7 ms,.bool true],S,tk,k))
  (hT:∀ S tk k,cL prog 25 [Ao (a++b),H7 ms] S tk k=some (H7 ms',S,tk,k))
  (hC:∀ S tk k,cL prog 26 [Ao a,H7 (ms'.take a.length)] S tk k=some (.tup [H7 (vs.map fun v=>zB (f v)),zA nn,.int 0],S,tk,k))
  (hV:∀ S tk k,cL prog 27 [Ao a] S tk k=some (Aq vs,S,tk,k)) :
  cL prog 9 [Ao a,Ao b] S tk k=some (.tup [.agg (rowC (resG a vs f nn).1),.int (resG a vs f nn).2],S,tk,k):=by
 have hJ:=fun S tk k=>(Ame S tk k).trans (N8 S tk k [a,b] (by simp) aC);have jf:(((ms'.length:Nat):Int) == ((ms.length:Nat):Int))=true:=aC
 have hsl:=Axn (P:=prog) (t:=54) (n:=a.length) (es:=ms'.map bigC) (c:=.unk) aT (X0 _) aC;rw [<- lK] at hsl;obtain ⟨RES,a2f⟩:∃ RES:AV,RES=.tup [.agg (rowC (resG a vs f nn).1),.int (resG a vs f nn).2]:=⟨_,rfl⟩;rw [<- a2f];have ke:=a2f.symm;conv at ke=>lhs; unfold resG
 generalize ms'.take a.length=xs at *;obtain ⟨bs,q6⟩:∃ bs,bs=vs.map fun v=>zB (f v):=⟨_,rfl⟩;rw [<- q6] at hC;have a27:pure3 RES=true:=by
  rw [a2f]; rfl
 refine opP func9 ntmps9 (hp3:=a27) ?_;simp only [Fw,S8,Fj,Ao,Cm,Cp,Aco] at hJ;simp only [Ao] at hF hR hT hC hV;simp only [H7,Aq,zA,bigA,digA] at hR hT hC hV hN;simp (maxSteps:=10^6)+contextual(disch:=try exact dqd)only[ev1,simprocAttr,Ca,Bo,Cb,results9,Ao,hJ,hF,hR,hT,hC,hV,jf,hsl,bne_self_eq_false,Fs,Fu];clear hJ hF hR hT hC hV hsl;refine loop1 (P:=prog) (fun x st=>st.T.length=119/\(x.1<=vs.length)/\(Be st.tk x.2 2=true)/\(∀ v ∈ vs.take x.1,inZ (f v)=true)/\getT st.T 0=Ao a/\getT st.T 4=.ref 0 0 0/\getT st.T 12=H7 bs/\getT st.T 13=.ref 1 1 0/\getT st.T 14=.ref 2 2 0/\getT st.T 71=Aq vs/\getT st.T 72=.int (vs.length:Nat)/\getT st.T 73=.int (x.1:Nat)/\st.S=[⟨0,[.frz [] .nilc,.int 0,.bool false]⟩,⟨1,bigC (zB nn)⟩,⟨2,[.frz ((outF f (vs.take x.1)).map Ar) x.2,.int 0]⟩]) (fun x=>vs.length - x.1) (fun x=>RES) (0,.nilc) ?_ ?_;case refine_2=>exact ⟨rfl,Ci _,rfl,by simp,rfl,rfl,rfl,rfl,rfl,rfl,rfl,rfl,rfl⟩
 rintro ⟨i,c⟩ ⟨T,S',tk',n'⟩ ⟨hl,hi,ab,dw,e0,e4,e12,e13,e14,e71,e72,e73,eS⟩ IH;simp only at hi ab dw e0 e4 e12 e13 e14 e71 e72 e73 eS;subst eS;obtain ⟨g,hg,hT⟩:=Ap hl;rw [hg] at e0 e4 e12 e13 e14 e71 e72 e73;subst hT;clear hg hl;have bg:=Aw (i:=i) aA;by_cases lt:i<vs.length
 ·have d1:decide ((i:Int)<(vs.length:Int))=true:=by simpa using lt
  obtain ⟨v,hx⟩:=Ab lt;have hx':=Li hx;have s9:nth (bs.map bigC) i=some (bigC (zB (f v))):=by rw [q6,Dd,Dd,hx]; rfl
  have hI:=hI0 v (Aj hx);simp only [bigC,zB] at s9;simp only [zA,bigA,digA] at hI;cases hz:inZ (f v) with
  | false =>
   have ar:(vs.all fun v=>inZ (f v))=false:=List.all_eq_false.2 ⟨v,Aj hx,by rw [hz]; simp⟩;rw [ar,if_neg (by simp)] at ke;rw [hz] at hI;subst ke;simp (maxSteps:=10^6)+contextual(disch:=try exact dqd)only[ev1,simprocAttr,Ca,Bo,Cb,results9,e0,e4,e12,e13,e14,e71,e72,e73,d1,Ao,Aq,H7,hx',s9,hI,Fu,rowC,Ag,Cp]
  | true =>
   rw [hz,show intZ (f v)=f v by unfold intZ; rw [if_pos hz]] at hI;have a0w:∀ u ∈ vs.take (i+1),inZ (f u)=true:=fun u hu=>by
    rw [B3 hx,Cu] at hu;rcases hu with hu|hu
    ·exact dw u hu
    ·rw [Ft.1 hu]; exact hz
   have hr:=Dh (f:=Ar) (sz:=2) (fun _=>rfl) (outF f (vs.take i));have oj:=Zd (f:=f) (l:=vs.take i);rw [Im] at oj;have b7:((outF f (vs.take i)).map Ar).length+1<=1048576:=by rw [Fg]; omega
   have am:=Ba ab;by_cases h0f:f v=0
   ·have d2:(f v != 0)=false:=by simpa using h0f
    have pu:outF f (vs.take (i+1))=outF f (vs.take i):=by rw [B3 hx,Zc,outF,if_pos h0f,outF,Fj]
    simp (maxSteps:=10^6)+contextual(disch:=try exact dqd)only[ev1,simprocAttr,Ca,Bo,Cb,results9,e0,e4,e12,e13,e14,e71,e72,e73,d1,d2,Ao,Aq,H7,hx',s9,hI,bg,Fs];refine IH (i+1,c) _ bM ⟨rfl,bM,ab,a0w,rfl,rfl,rfl,rfl,rfl,rfl,rfl,rfl,?_⟩;simp only [pu]
   ·have d2:(f v != 0)=true:=by simpa using h0f
    have pu:outF f (vs.take (i+1))=outF f (vs.take i)++[(v,f v)]:=by rw [B3 hx,Zc,outF,if_neg h0f,outF]
    simp (maxSteps:=10^6)+contextual(disch:=try exact dqd)only[ev1,simprocAttr,Ca,Bo,Cb,results9,e0,e4,e12,e13,e14,e71,e72,e73,d1,d2,Ao,Aq,H7,hx',s9,hI,bg,hr,Fs];refine IH (i+1,Ay tk' c 2) _ bM ⟨rfl,bM,am,a0w,rfl,rfl,rfl,rfl,rfl,rfl,rfl,rfl,?_⟩;simp only [pu,C9,Cm,Cp,Ar]
 ·have d1:decide ((i:Int)<(vs.length:Int))=false:=by simpa using lt
  have fv:i=vs.length:=aA
  subst fv;rw [C8] at dw;rw [C8];have ar:(vs.all fun v=>inZ (f v))=true:=Fc.2 dw;rw [ar,if_pos rfl] at ke;clear IH;have oj:=Zd (f:=f) (l:=vs);generalize outF f vs=cs at *;cases hz:inZ nn with
  | false =>
   rw [hz,if_neg (by simp)] at ke;rw [hz] at hN;subst ke;simp (maxSteps:=10^6)+contextual(disch:=try exact dqd)only[ev1,simprocAttr,Ca,Bo,Cb,results9,e0,e4,e12,e13,e14,e71,e72,e73,d1,Ao,Aq,H7,bigC,zB,hN,Fu,rowC,Ag,Cp]
  | true =>
   rw [hz,if_pos rfl] at ke;rw [hz,show intZ nn=nn by unfold intZ; rw [if_pos hz]] at hN;have hTi:=fun c S tk k=>(Au1 S tk k (c:=c)).trans (a4p S tk k);have hFo:=fun S tk k=>G1 S tk k a (Q5 cs nn false) aA hla (Aog oj hvl);generalize Q5 cs nn false=R at *;simp only [rowC,Ag] at hTi;simp only [Ao,rowC,Ag] at hFo;cases hfo:E3 a R with
   | true =>
    rw [hfo,if_pos rfl] at ke;rw [hfo] at hFo;subst ke;simp (maxSteps:=10^6)+contextual(disch:=try exact dqd)only[ev1,simprocAttr,Ca,Bo,Cb,results9,e0,e4,e12,e13,e14,e71,e72,e73,d1,Ao,Aq,H7,bigC,zB,hN,hTi,hFo,Fs,rowC,Ag]
   | false =>
    rw [hfo,if_neg (by simp)] at ke;rw [hfo] at hFo;subst ke;simp (maxSteps:=10^6)+contextual(disch:=try exact dqd)only[ev1,simprocAttr,Ca,Bo,Cb,results9,e0,e4,e12,e13,e14,e71,e72,e73,d1,Ao,Aq,H7,bigC,zB,hN,hTi,hFo,Fs,Fu,rowC,Ag,Cp]
end
end
section
open Go
end
section
open Go Tryz
set_option maxRecDepth 100000
section
variable (S:List Ent) (tk:List Nat) (k:Nat)
theorem Ts (a b:List RowT) (la:a.length<=6) (lb:b.length<=6) (h0:sysE (a++b)=0) (hf:Ls (a++b)=true) (ms:List BigT) (hR:∀ S tk k,cL prog 24 [Ao (a++b)] S tk k=some (.tup [H7 ms,.bool false],S,tk,k)):cL prog 9 [Ao a,Ao b] S tk k=some (.tup [.agg (rowC ([],0,false)),.int 5],S,tk,k):=by
 have ar:=Hl (Hc h0).2.2.2;have hlen:∀ r ∈ a++b,r.1.length<=1048576:=fun r h=>Za50
 have hJ:=fun S tk k=>(Ame S tk k).trans (N8 S tk k [a,b] (by simp) aC);have hF:=fun S tk k=>Mt S tk k (a++b) aC hlen;rw [hf,h0] at hF;simp only [Fw,S8,Fj,Ao,Cm,Cp,Aco] at hJ;simp only [Ao] at hF hR;simp only [H7] at hR;refine opP func9 ntmps9 (hp3:=rfl) ?_;simp (maxSteps:=10^6)+contextual(disch:=try exact dqd)only[ev1,simprocAttr,Ca,Bo,Cb,results9,Ao,hJ,hF,hR,bne_self_eq_false,Fs,Fu,rowC,Ag,Cp]
end
def L8 (l:List RowT):Bool:=decide (l.length<=6) && l.all fun r=>decide (r.1.length<=6)
theorem Y6 {l:List RowT} (h:L8 l=true):l.length<=6/\∀ r ∈ l,r.1.length<=6:=by
 unfold L8 at h;rw [Ch,decide_eq_true_iff,Fc] at h;exact ⟨h.1,fun r hr=>by simpa using h.2 r hr⟩
section
variable (S:List Ent) (tk:List Nat) (k:Nat)
theorem Uf (l:List RowT):cL prog 7 [Ao l] S tk k=some (.bool (L8 l),S,tk,k):=by
 refine opP func7 ntmps7 (hp3:=rfl) ?_;by_cases h6:l.length<=6;case neg =>
  have d0:decide ((l.length:Int) > 6)=true:=aC
  have hr:L8 l=false:=by unfold L8; rw [decide_eq_false h6]; rfl
  rw [hr]
  simp (maxSteps:=10^6)+contextual(disch:=try exact dqd)only[ev1,simprocAttr,Ca,Bo,Cb,results7,Ao,d0]
 have d0:decide ((l.length:Int) > 6)=false:=aC
 simp (maxSteps:=10^6)+contextual(disch:=try exact dqd)only[ev1,simprocAttr,Ca,Bo,Cb,results7,Ao,d0];refine loop1 (P:=prog) (fun x st=>st.T.length=21/\(x<=l.length)/\(L8 l=(l.drop x).all fun r=>decide (r.1.length<=6))/\getT st.T 0=Ao l/\getT st.T 3=.int (x:Nat)/\st.S=[]) (fun x=>l.length - x) (fun x=>.bool (L8 l)) (0) ?_ ?_;case refine_2=>exact ⟨rfl,Ci _,by unfold L8; rw [decide_eq_true h6]; rfl,rfl,rfl,rfl⟩
 rintro i ⟨T,S',tk',n'⟩ ⟨hl,hi,hE,e0,e3,eS⟩ IH;subst eS;obtain ⟨g,hg,hT⟩:=Ap hl;rw [hg] at e0 e3;subst hT;clear hg hl;have bg:=Aw (i:=i) aA;by_cases la:i<l.length
 ·have d1:decide ((i:Int)<(l.length:Int))=true:=aZ
  obtain ⟨r,hx⟩:=Ab la;have hx':=Lg hx;rw [Ax hx,Sw] at hE;simp only [rowC,Ag] at hx';by_cases hc:r.1.length<=6
  ·have d2:decide ((r.1.length:Int) > 6)=false:=aC
   rw [decide_eq_true hc,Fq] at hE;simp (maxSteps:=10^6)+contextual(disch:=try exact dqd)only[ev1,simprocAttr,Ca,Bo,Cb,results7,e0,e3,Ao,Ag,d1,d2,hx',bg];exact IH (i+1) _ aF ⟨rfl,aE,hE,dC,dC,dC⟩
  ·have d2:decide ((r.1.length:Int) > 6)=true:=aC
   rw [decide_eq_false hc,Fo] at hE;simp (maxSteps:=10^6)+contextual(disch:=try exact dqd)only[ev1,simprocAttr,Ca,Bo,Cb,results7,e0,e3,Ao,Ag,d1,d2,hx',hE]
 ·have d1:decide ((i:Int)<(l.length:Int))=false:=aZ
  have fv:i=l.length:=aA
  rw [fv,Fp] at hE;simp (maxSteps:=10^6)+contextual(disch:=try exact dqd)only[ev1,simprocAttr,Ca,Bo,Cb,results7,e0,e3,Ao,d1,hE,List.all_nil]
theorem At8 {A:List (List AV)} {c:Cap} : cL prog 7 [.frz A c] S tk k=cL prog 7 [.frz A .unk] S tk k:=P0 rfl rfl rfl
end
end
section
open Go
theorem Jr [Globs] {P : Program} [Ext P] {fn : Func} {f : FuncId} {c : Code} (hf : P.funcs[f]? = some fn) (hx : Ext.on P f = false) (hv : Ext.mv P f = false) (hb : fn.body = some c) (a7 : (fn.name == "runtime.NumGoroutine") = false) {args : List AV} (hp : (args.map w2).all pure2 = true) {r : AV} (m : Nat) (h : evF P B0 m f args [] [] 0 = some (r, [], [], 0)) (S : List Ent) (tk : List Nat) (n : Nat) : cL P f args S tk n = some (r, S, tk, n) := by
 refine Kt.2 ⟨m,?_⟩;cases m with
 | zero=>simp [evF] at h
 | succ m =>
  have hn : ¬ fn.name = "runtime.NumGoroutine" := dF
  simp only [evF,hf,hb] at h ⊢;rw [if_neg (by rw [hx]; simp),if_neg hn,if_neg (by rw [hv]; simp),if_pos hp] at h ⊢;generalize (if Ju c=true then runN (runP P B0 (evF P B0 m) m fn c) (args.map w2) else runP P B0 (evF P B0 m) m fn c (args.map w2))=o at h ⊢;cases o with
  | none=>simp at h
  | some r'=>simp only [Bg,Cf,and_true] at h ⊢; exact h
end
section
open Go Tryz
def nX:ByteArray:=⟨#[120]⟩
def nY:ByteArray:=⟨#[121]⟩
def lA:List RowT:=[([(nX,1),(nY,-1)],0,false),([(nX,-1)],1,false)]
def lB:List RowT:=[([(nY,1)],0,false)]
def rIt:RowT:=([(nY,-1)],1,false)
section
variable (S:List Ent) (tk:List Nat) (k:Nat)
theorem Axt:cL prog 43 [.agg (rowC rIt)] S tk k=some (.agg (rowC rIt),S,tk,k):=Jr func43 rfl rfl rfl rfl rfl 60 aK S tk k
theorem zSame:cL prog 42 [.agg (rowC rIt),.agg (rowC rIt)] S tk k=some (.bool true,S,tk,k):=Jr func42 rfl rfl rfl rfl rfl 40 aK S tk k
end
end
section
open Go
def lOne:List RowT:=[([(nX,1)],-1,false)]
def lTwo:List RowT:=[([(nX,2)],-1,false)]
theorem c1r:((1:Int):Rat)=1:=rfl
theorem c2r:((2:Int):Rat)=2:=rfl
theorem cm1r:((-1:Int):Rat)=-1:=rfl
theorem cm2r:((-2:Int):Rat)=-2:=rfl
theorem c0r:((0:Int):Rat)=0:=rfl
theorem satA {v:ByteArray->Rat} (h:Sat v lA):v nX - v nY<=0/\1 - v nX<=0:=by
 have h1:=(h _ (Cq ..)).1;have h2:=(h ([(nX,-1)],1,false) (by simp [lA])).1;simp only [valR,linV,c1r,cm1r,c0r] at h1 h2;exact ⟨aL,aL⟩
theorem satB {v:ByteArray->Rat} (h:Sat v lB):v nY<=0:=by
 have h1:=(h _ (Cq ..)).1;simp only [valR,linV,c1r,c0r] at h1;grind
theorem Axh {v:ByteArray->Rat} (h:Sat v lOne):v nX - 1<=0:=by
 have h1:=(h _ (Cq ..)).1;simp only [valR,linV,c1r,cm1r] at h1;grind
theorem Axi {v:ByteArray->Rat} (h:Sat v lTwo):2*v nX - 1<=0:=by
 have h1:=(h _ (Cq ..)).1;simp only [valR,linV,c2r,cm1r] at h1;grind
theorem Aha {v:ByteArray->Rat} {l m:List RowT} (h:Sat v (l++m)):Sat v l/\Sat v m:=⟨fun x hx=>h x (Cu.2 (.inl hx)),fun x hx=>h x (Cu.2 (.inr hx))⟩
theorem M7 {l:List RowT} {r:RowT} (hc:A1 r.1 r.2.1=0) (he:r.2.2=false) (hs:sysE (l++[oneR r (-1)])=0) (hb:inB (r.2.1*-1+1)=true):E3 l r=true↔¬ ∃ v,Sat v l/\1<=valR v r:=by
 rw [Y0,Ah3 (.inr rfl) hc hs hb];constructor
 ·rintro ⟨-,h,-⟩ ⟨v,h1,h2⟩;exact h ⟨v,h1,by rw [cm1r]; grind⟩
 ·intro h;refine ⟨hc,fun ⟨v,h1,h2⟩=>h ⟨v,h1,?_⟩,fun h'=>(by rw [he] at h'; cases h')⟩;rw [cm1r] at h2; grind
theorem fol1:E3 lA rIt=true:=by
 refine (M7 aQ rfl aQ aQ).2 ?_;rintro ⟨v,h1,h2⟩;have:=satA h1;simp only [rIt,valR,linV,c1r,cm1r] at h2;grind
theorem inf1:infB (lB++[rIt])=true:=by
 refine Abp.2 ⟨aQ,?_⟩;rintro ⟨v,h⟩;obtain ⟨h1,h2⟩:=Aha h;have h3:=satB h1;have h4:=(h2 _ (Cq ..)).1;simp only [rIt,valR,linV,c1r,cm1r] at h4;grind
theorem fol2:E3 lOne ([(nX,1)],-2,false)=true:=by
 refine (M7 aQ rfl aQ aQ).2 ?_;rintro ⟨v,h1,h2⟩;have:=Axh h1;simp only [valR,linV,c1r,cm2r] at h2;grind
theorem fol3:E3 lOne ([(nX,1)],0,false)=false:=by
 refine Bool.eq_false_iff.2 fun h=>(M7 aQ rfl aQ aQ).1 h ⟨fun _=>1,?_,?_⟩
 ·intro r hr;simp only [lOne,C4,kH,or_false] at hr;subst hr;simp only [valR,linV,c1r,cm1r];exact ⟨aL,fun h=>aV⟩
 ·simp only [valR,linV,c1r,c0r];grind
theorem fol4:E3 lTwo ([(nX,1)],0,false)=true:=by
 refine (M7 aQ rfl aQ aQ).2 ?_;rintro ⟨v,h1,h2⟩;have:=Axi h1;simp only [valR,linV,c1r,c0r] at h2;grind
theorem Ai8:sysE (lA++lB)=0:=aQ
theorem Aoa:sysE (lA++[])=0:=aQ
theorem Awj:Ls (lA++lB)=false:=by
 refine P3 Ai8 (b:=false) ⟨fun h=>aV,fun ⟨v,h⟩=>?_⟩;obtain ⟨h1,h2⟩:=Aha h;have h3:=satA h1;have h4:=satB h2;exfalso; grind
theorem Awi:Ls (lA++[])=true:=by
 refine P3 Aoa (b:=true) ⟨fun _=>⟨fun _=>1,fun r hr=>?_⟩,fun _=>rfl⟩;simp only [lA,Fj,C4,kH,or_false] at hr;rcases hr with rfl|rfl
 ·simp only [valR,linV,c1r,cm1r,c0r];exact ⟨aL,fun h=>aV⟩
 ·simp only [valR,linV,c1r,cm1r,c0r];exact ⟨aL,fun h=>aV⟩
theorem askAB:Kk QQ.qF 20 (lA++lB) (Dx (lA++lB)) false=some (⟨false,[],[(1,1),(1,1),(1,1)],none⟩,true):=aK
theorem askA0:(Kk QQ.qF 20 (lA++[]) (Dx (lA++[])) false).map (fun x=>(x.1.f,x.1.nu,x.1.least,x.2))=some (true,[],none,true):=aK
theorem Awn:Aid [(1,1),(1,1),(1,1)]=[1,1,1].map zB:=aQ
def Av9:Cap->Option Nat
 | .tok id _ _=>some id
 | _=>none
def Akn (c d:Cap):Prop:=∀ i,Av9 c=some i->Av9 d=some i->False
theorem Akn.symm {c d:Cap} (h:Akn c d):Akn d c:=fun i h1 h2=>h i h2 h1
end
section
open Go
end
section
open Go
end
section
open Go Tryz
section
variable (S:List Ent) (tk:List Nat) (k:Nat)
theorem zTi:cL prog 29 [.agg (rowC rIt)] S tk k=some (.agg (rowC rIt),S,tk,k):=Jr func29 rfl rfl rfl rfl rfl 60 aK S tk k
theorem zI0:cL prog 28 [zA 0] S tk k=some (.tup [.int 0,.bool true],S,tk,k):=Jr func28 rfl rfl rfl rfl rfl 60 aK S tk k
theorem zI1:cL prog 28 [zA 1] S tk k=some (.tup [.int 1,.bool true],S,tk,k):=Jr func28 rfl rfl rfl rfl rfl 60 aK S tk k
theorem zIm:cL prog 28 [zA (-1)] S tk k=some (.tup [.int (-1),.bool true],S,tk,k):=Jr func28 rfl rfl rfl rfl rfl 60 aK S tk k
theorem zPred:cL prog 16 [.agg (rowC ([(nX,1),(nY,-2)],3,false))] S tk k=some (.agg (Aui (.node 13 bE 0 [.node 6 bE 0 [.node 3 nX 0 [],.node 1 bE 3 []],.node 8 bE 0 [.node 1 bE 2 [],.node 3 nY 0 []]])),S,tk,k):=Jr func16 rfl rfl rfl rfl rfl 60 aK S tk k
theorem zSh1:cL prog 11 [Ao lA,Ao lB] S tk k=some (Aq [nY],S,tk,k):=Jr func11 rfl rfl rfl rfl rfl 200 aK S tk k
theorem zSh2:cL prog 12 [Ao lA,Ao lB] S tk k=some (Aq [nY],S,tk,k):=Jr func12 rfl rfl rfl rfl rfl 200 aK S tk k
end
end
section
open Go Tryz
set_option maxHeartbeats 1000000
set_option maxRecDepth 100000
section
variable (S:List Ent) (tk:List Nat) (k:Nat)
theorem Po (x c:Int) (hx:(x != 0)=true):cL prog 20 [.int x,.int 0,.int c] S tk k=some (.agg (rowC ([(nX,x)],c,false)),S,tk,k):=by
 refine opP func20 ntmps20 (hp3:=rfl) ?_;have hA:=fun (a b:AV)=>apB_one (tk:=[]) (c:=.nilc) (es:=[]) (y:=[a,b]) (sz:=2) rfl rfl rfl aJ;simp (maxSteps:=10^6)+contextual(disch:=try exact dqd)only[ev1,simprocAttr,Ca,Bo,Cb,results20,hx,bne_self_eq_false,hA];rfl
theorem Aez (x y c:Int) (hx:(x != 0)=true) (hy:(y != 0)=true):cL prog 20 [.int x,.int y,.int c] S tk k=some (.agg (rowC ([(nX,x),(nY,y)],c,false)),S,tk,k):=by
 refine opP func20 ntmps20 (hp3:=rfl) ?_;have hA:=fun (a b:AV)=>apB_one (tk:=[]) (c:=.nilc) (es:=[]) (y:=[a,b]) (sz:=2) rfl rfl rfl aJ;have hA2:=fun (a b c d:AV)=>apB_one (tk:=Eh [] .nilc) (c:=Ay [] .nilc 2) (es:=[[a,b]]) (y:=[c,d]) (sz:=2) rfl rfl rfl (by simp);simp (maxSteps:=10^6)+contextual(disch:=try exact dqd)only[ev1,simprocAttr,Ca,Bo,Cb,results20,hx,hy,hA,hA2,Ct,Sq];rfl
theorem Aoy (y c:Int) (hy:(y != 0)=true):cL prog 20 [.int 0,.int y,.int c] S tk k=some (.agg (rowC ([(nY,y)],c,false)),S,tk,k):=by
 refine opP func20 ntmps20 (hp3:=rfl) ?_;have hA:=fun (a b:AV)=>apB_one (tk:=[]) (c:=.nilc) (es:=[]) (y:=[a,b]) (sz:=2) rfl rfl rfl aJ;simp (maxSteps:=10^6)+contextual(disch:=try exact dqd)only[ev1,simprocAttr,Ca,Bo,Cb,results20,hy,bne_self_eq_false,hA];rfl
theorem Ate {A B:List (List AV)} {c d:Cap} : cL prog 19 [.frz A c,.frz B d] S tk k=cL prog 19 [.frz A .unk,.frz B .unk] S tk k:=P0 rfl rfl rfl
theorem Asf {A B:List (List AV)} {c d:Cap} : cL prog 9 [.frz A c,.frz B d] S tk k=cL prog 9 [.frz A .unk,.frz B .unk] S tk k:=P0 rfl rfl rfl
theorem Axl {A B:List (List AV)} {c d:Cap} : cL prog 11 [.frz A c,.frz B d] S tk k=cL prog 11 [.frz A .unk,.frz B .unk] S tk k:=P0 rfl rfl rfl
theorem Aup {A B C:List (List AV)} {c d:Cap} {n:Int} {b:Bool} : cL prog 21 [.frz A c,.frz B d,.agg [.frz C .unk,.int n,.bool b]] S tk k=cL prog 21 [.frz A .unk,.frz B .unk,.agg [.frz C .unk,.int n,.bool b]] S tk k:=P0 rfl rfl rfl
theorem Al1 {A C:List (List AV)} {c:Cap} {n:Int} {b:Bool} : cL prog 13 [.frz A c,.agg [.frz C .unk,.int n,.bool b]] S tk k=cL prog 13 [.frz A .unk,.agg [.frz C .unk,.int n,.bool b]] S tk k:=P0 rfl rfl rfl
theorem Xq {l:List RowT} (h:l.all (fun r=>decide (r.1.length<=6))=true):∀ r ∈ l,r.1.length<=1048576:=fun r hr=>by
 have:=Fc.1 h r hr;simp at this;omega
theorem Aji:cL prog 21 [Ao lA,Ao lB,.agg (rowC rIt)] S tk k=some (.bool true,S,tk,k):=by
 have hC:=fun S tk k=>Jq S tk k rIt.1 rIt.2.1 aJ;have oq:A1 rIt.1 rIt.2.1=0:=aQ
 rw [oq] at hC;have hT:=fun S tk k=>Axt S tk k;have hS:=fun S tk k=>zSame S tk k;have hF:=fun S tk k=>Ui S tk k lA rIt aJ (Xq rfl) aJ;rw [fol1] at hF;have hB:=fun c d S tk k=>(Ate S tk k (c:=c) (d:=d)).trans (Aox S tk k lB [rIt] aJ aJ);have hI:=fun S tk k=>Wn S tk k (lB++[rIt]) aJ (Xq rfl);rw [inf1] at hI;have hSh:=fun S tk k=>zSh2 S tk k;have z1:((0:Int) != 0)=false:=rfl;have sy:sEq nY nY=true:=Q1.2 rfl;have i0:intN (AV.prim (.int .i64 0))=some 0:=rfl;have l1:(([nY].map strC).length:Nat)=1:=rfl;simp only [Ao,C9] at hF hB hI hSh ⊢;simp only [rIt,rowC,Ag,linA,Ar,Cm,Cp,Aq,strC] at hC hT hS hF hB hI hSh ⊢;refine opP func21 ntmps21 (hp3:=rfl) ?_;simp (maxSteps:=10^6)+contextual(disch:=try exact dqd)only[ev1,simprocAttr,Ca,Bo,Cb,results21,hC,hT,hS,hF,hB,hI,hSh,z1,sy,i0,Fs,Fu];refine loop1 (P:=prog) (fun x st=>st.T.length=74/\(x<=1)/\getT st.T 5=.ref 0 0 0/\getT st.T 7=.frz [[.prim (.string nY)]] .unk/\getT st.T 8=.int (x:Nat)/\st.S=[⟨0,[.frz [[.prim (.string nY),.prim (.int .i64 (-1))]] .unk,.prim (.int .i64 1),.prim (.bool false)]⟩]) (fun x=>1 - x) (fun x=>.bool true) (0) ?_ ?_;case refine_2=>exact ⟨rfl,Ci _,rfl,rfl,rfl,rfl⟩
 rintro i ⟨T,S',tk',n'⟩ ⟨hl,hi,e5,e7,e8,eS⟩ IH;subst eS;obtain ⟨g,hg,hT⟩:=Ap hl;rw [hg] at e5 e7 e8;subst hT;clear hg hl;have OUT:=IH;clear IH;have bg:=Aw (i:=i) aA;by_cases la:i<1
 ·have d1:decide ((i:Int)<1)=true:=aC
  have hx':nth [[AV.prim (.string nY),.prim (.int .i64 (-1))]] i=some [AV.prim (.string nY),.prim (.int .i64 (-1))]:=by
   have:i=0:=aA
   subst this; rfl
  simp (maxSteps:=10^6)+contextual(disch:=try exact dqd)only[ev1,simprocAttr,Ca,Bo,Cb,results21,e5,e7,e8,d1,Cj,Cv,Fk];refine loop1 (P:=prog) (fun x st=>st.T.length=74/\(x.1<=1)/\(x.2=decide (x.1=1))/\getT st.T 5=.ref 0 0 0/\getT st.T 7=.frz [[.prim (.string nY)]] .unk/\getT st.T 8=.int (i:Nat)/\getT st.T 9=.prim (.bool x.2)/\getT st.T 10=.int (x.1:Nat)/\st.S=[⟨0,[.frz [[.prim (.string nY),.prim (.int .i64 (-1))]] .unk,.prim (.int .i64 1),.prim (.bool false)]⟩]) (fun x=>1 - x.1) (fun x=>.bool true) (0,false) ?_ ?_;case refine_2=>exact ⟨rfl,Ci _,rfl,rfl,rfl,rfl,rfl,rfl,rfl⟩
  rintro ⟨j,b⟩ ⟨T,S',tk',n'⟩ ⟨hl,hj,hb,e5,e7,e8,e9,e10,eS⟩ IH;simp only at hj hb e5 e7 e8 e9 e10 eS;subst eS;obtain ⟨g,hg,hT⟩:=Ap hl;rw [hg] at e5 e7 e8 e9 e10;subst hT;clear hg hl;have ru:=Aw (i:=j) aA;by_cases lb:j<1
  ·have d2:decide ((j:Int)<1)=true:=aC
   have eg:nth [[AV.prim (.string nY)]] j=some [AV.prim (.string nY)]:=by
    have:j=0:=aA
    subst this; rfl
   have zm:b=false:=by rw [hb]; exact decide_eq_false aA
   subst zm;simp (maxSteps:=10^6)+contextual(disch:=try exact dqd)only[ev1,simprocAttr,Ca,Bo,Cb,results21,e5,e7,e8,e9,e10,d2,hx',eg,sy,ru,Cj,Cv,Fk];exact IH (j+1,true) _ aF ⟨rfl,aE,(decide_eq_true (show j+1=1 by first|omega|(dsimp only; omega))).symm,rfl,rfl,rfl,rfl,rfl,rfl⟩
  ·have d2:decide ((j:Int)<1)=false:=aC
   have o5:b=true:=by rw [hb]; exact decide_eq_true aA
   subst o5;simp (maxSteps:=10^6)+contextual(disch:=try exact dqd)only[ev1,simprocAttr,Ca,Bo,Cb,results21,e5,e7,e8,e9,e10,d2,bg,Cj,Cv,Fk,Fs];exact OUT (i+1) _ aF ⟨rfl,aE,rfl,rfl,rfl,rfl⟩
 ·have d1:decide ((i:Int)<1)=false:=aC
  simp (maxSteps:=10^6)+contextual(disch:=try exact dqd)only[ev1,simprocAttr,Ca,Bo,Cb,results21,e5,e7,e8,d1,Cj,Cv,Fk]
end
end
section
open Go Tryz
section
variable (S:List Ent) (tk:List Nat) (k:Nat)
theorem zComb:cL prog 26 [Ao lA,H7 [zB 1,zB 1]] S tk k=some (.tup [H7 [zB 0,zB (-1)],zA 1,.int 0],S,tk,k):=Jr func26 rfl rfl rfl rfl rfl 200 aK S tk k
end
section
variable (S:List Ent) (tk:List Nat) (k:Nat)
theorem zTrim:cL prog 25 [Ao (lA++lB),H7 [zB 1,zB 1,zB 1]] S tk k=some (H7 [zB 1,zB 1,zB 1],S,tk,k):=Jr func25 rfl rfl rfl rfl rfl 200 aK S tk k
end
end
section
open Go Tryz
set_option maxHeartbeats 4000000
set_option maxRecDepth 100000
section
variable (S:List Ent) (tk:List Nat) (k:Nat)
def fIt (v:ByteArray):Int:=if sEq v nY=true then -1 else 0
theorem resC:resG lA [nX,nY] fIt 1=(rIt,0):=by
 unfold resG;rw [if_pos aQ,if_pos aQ,show Q5 (outF fIt [nX,nY]) 1 false=rIt aQ,if_pos fol1]
theorem Axg:cL prog 9 [Ao lA,Ao lB] S tk k=some (.tup [.agg (rowC rIt),.int 0],S,tk,k):=by
 have ar:=Hl (Hc Ai8).2.2.2;have hlen:∀ r ∈ lA++lB,r.1.length<=1048576:=fun r h=>Za50
 have hN:askN 20 (lA++lB) (Dx (lA++lB))=some ⟨false,[],[(1,1),(1,1),(1,1)],none⟩:=by unfold askN; rw [askAB]
 have:=Abr S tk k lA lB aJ aJ (Xq rfl) [nX,nY] aJ fIt 1 [zB 1,zB 1,zB 1] [zB 1,zB 1,zB 1] rfl rfl
  (fun v hv S tk k=>by
   rcases C4.1 hv with rfl|hv
   ·rw [show fIt nX=0 by decide +kernel]; exact zI0 S tk k
   ·rw [Ft.1 hv,show fIt nY=-1 by decide +kernel]; exact zIm S tk k)
  (fun S tk k=>zI1 S tk k) (fun S tk k=>by rw [show outF fIt [nX,nY]=[(nY,-1)] aQ,show Q5 [(nY,-1)] 1 false=rIt aQ]; exact zTi S tk k)
  (fun S tk k=>by have:=Mt S tk k (lA++lB) aJ hlen; rw [Awj,Ai8] at this; exact this)
  (fun S tk k=>by
   have:=Ny S tk k (lA++lB) hlen (T2 (Hc Ai8).2.2.2) 20 _ Ai8 hN rfl aJ (fun q hq=>by
    simp only [C4,kH,or_false,or_self] at hq;subst hq;exact ⟨Aee,Aee,aJ⟩)
   rw [Awn] at this;exact this)
  (fun S tk k=>zTrim S tk k) (fun S tk k=>by
   rw [show Ob lA.length [zB 1,zB 1,zB 1]=[zB 1,zB 1] from rfl,show [nX,nY].map (fun v=>zB (fIt v))=[zB 0,zB (-1)] aQ];exact zComb S tk k) (fun S tk k=>by have:=Tl S tk k lA (Auz Ai8); rw [show Dx lA=[nX,nY] aQ] at this; exact this)
 rw [resC] at this;exact this
theorem Axf:cL prog 9 [Ao lA,Ao []] S tk k=some (.tup [.agg (rowC ([],0,false)),.int 5],S,tk,k):=by
 have ar:=Hl (Hc Aoa).2.2.2;have hlen:∀ r ∈ lA++[],r.1.length<=1048576:=fun r h=>Za50
 obtain ⟨⟨a,ok⟩,e1,e2⟩:=Cd.1 askA0;simp only [Cf] at e2;obtain ⟨e2,e3,e4,rfl⟩:=e2;have hN:askN 20 (lA++[]) (Dx (lA++[]))=some a:=by unfold askN; rw [e1]
 refine Ts S tk k lA [] aJ aJ Aoa Awi [] fun S tk k=>?_;have:=Ny S tk k (lA++[]) hlen (T2 (Hc Aoa).2.2.2) 20 a Aoa hN e4 (by rw [e3]; simp) (by rw [e3]; intro q hq; cases hq);rw [e2,if_pos rfl] at this;exact this
theorem Ajh:cL prog 8 [] S tk k=some (.bool true,S,tk,k):=by
 have ka:=fun S tk k=>Aez S tk k 1 (-1) 0 rfl rfl;have fi:=fun S tk k=>Po S tk k (-1) 1 rfl;have jq:=fun S tk k=>Aoy S tk k 1 0 rfl;have zy:=fun S tk k=>Aez S tk k 1 (-2) 3 rfl rfl;have mb:=fun S tk k=>Po S tk k 1 (-1) rfl;have jc:=fun S tk k=>Po S tk k 1 (-2) rfl;have r8:=fun S tk k=>Po S tk k 1 0 rfl;have r9:=fun S tk k=>Po S tk k 2 (-1) rfl;have e1:Ao lA=.frz [rowC ([(nX,1),(nY,-1)],0,false),rowC ([(nX,-1)],1,false)] .unk:=rfl;have e2:Ao lB=.frz [rowC ([(nY,1)],0,false)] .unk:=rfl;have e3:Ao []=.frz [] .unk:=rfl;have e4:Ao lOne=.frz [rowC ([(nX,1)],-1,false)] .unk:=rfl;have e5:Ao lTwo=.frz [rowC ([(nX,2)],-1,false)] .unk:=rfl;have hA1:=fun S tk k=>Axg S tk k;have hA2:=fun S tk k=>Axf S tk k;have hS:=fun S tk k=>zSh1 S tk k;have hP:=fun S tk k=>zPred S tk k;have hG:=fun S tk k=>Aji S tk k;have hF2:=fun S tk k=>G1 S tk k lOne ([(nX,1)],-2,false) aJ (Xq rfl) (by simp);have hF3:=fun S tk k=>G1 S tk k lOne ([(nX,1)],0,false) aJ (Xq rfl) (by simp);have hF4:=fun S tk k=>G1 S tk k lTwo ([(nX,1)],0,false) aJ (Xq rfl) (by simp);rw [fol2] at hF2;rw [fol3] at hF3;rw [fol4] at hF4;rw [e1,e2] at hA1 hS hG;rw [e1,e3] at hA2;rw [e4] at hF2 hF3;rw [e5] at hF4;have gA1:=fun c d S tk k=>(Asf (S:=S) (tk:=tk) (k:=k) (c:=c) (d:=d)).trans (hA1 S tk k);have gA2:=fun c d S tk k=>(Asf (S:=S) (tk:=tk) (k:=k) (c:=c) (d:=d)).trans (hA2 S tk k);have gS:=fun c d S tk k=>(Axl (S:=S) (tk:=tk) (k:=k) (c:=c) (d:=d)).trans (hS S tk k);simp only [rIt,rowC,Ag,Cm,Cp] at hG hF2 hF3 hF4;have gG:=fun c d S tk k=>(Aup (S:=S) (tk:=tk) (k:=k) (c:=c) (d:=d)).trans (hG S tk k);have gF2:=fun c S tk k=>(Al1 (S:=S) (tk:=tk) (k:=k) (c:=c)).trans (hF2 S tk k);have gF3:=fun c S tk k=>(Al1 (S:=S) (tk:=tk) (k:=k) (c:=c)).trans (hF3 S tk k);have gF4:=fun c S tk k=>(Al1 (S:=S) (tk:=tk) (k:=k) (c:=c)).trans (hF4 S tk k);clear hA1 hA2 hS hG hF2 hF3 hF4;simp only [rIt,rowC,Ag,Cm,Cp,Aq,strC,nX,nY,Ar,Aui,At5,bE] at *;have n2:(((2:Nat):Int) != 2)=false:=rfl;have n1:(((1:Nat):Int) != 1)=false:=rfl;have z1:((0:Int) != 0)=false:=rfl;have z5:((5:Int) != 5)=false:=rfl;have i1:intN (AV.prim (.int .i64 1))=some 1:=rfl;have i0:intN (AV.prim (.int .i64 0))=some 0:=rfl;have sy:sEq (⟨#[121]⟩:ByteArray) ⟨#[121]⟩=true:=Q1.2 rfl;refine opP func8 ntmps8 (hp3:=rfl) ?_;simp (maxSteps:=10^6)+contextual(disch:=try exact dqd)only[ev1,simprocAttr,Ca,Bo,Cb,results8,ka,fi,jq,zy,mb,jc,r8,r9,gA1,gA2,gS,hP,gG,gF2,gF3,gF4,n1,n2,z1,z5,i0,i1,sy,Fs,Fu]
end
end
end Go.Proofs.YthelkgdmgihhiaaGreat
