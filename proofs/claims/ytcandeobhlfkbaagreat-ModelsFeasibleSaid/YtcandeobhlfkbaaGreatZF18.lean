/- Part 18. -/
import Derived.Test.YtcandeobhlfkbaaGreatZF17
import Derived.WalkKit
open Bool renaming and_eq_true->Ch,false_eq_true->C8,false_and->Fk,true_and->Fs,or_false->Fv,or_eq_true->F8,false_or->I1,true_or->Sr,not_true->Sz,not_false->T3,or_true->iN
open Go.Builtin renaming append_->Oa
open Go.IntKind renaming i64->Cf
open Go.Proofs.YtcandeobhlfkbaaGreat.AV renaming bool->Cb,int->Cd,str->Ce
open Go.Value renaming oneCell'->S8
open Go.World renaming cell?->Fz
open Int renaming natAbs_mul->Ie,add_assoc->gZ
open List renaming length_cons->Ck,mem_cons->Cn,map_cons->Cp,cons_append->Cr,length_append->Cs,length_nil->Cu,all_eq_true->Cv,nil_append->Cw,mem_append->C4,getElem?_eq_none->C9,append_assoc->Fa,take_of_length_le->Fc,map_nil->Fi,drop_length->Fo,length_map->Fq,flatten_cons->Fx,pairwise_cons->F0,take_succ_cons->F1,getElem?_cons_zero->F2,take_length->Gl,map_append->Ij,mem_of_getElem?->Ik,length_take->Ix,take_append_drop->Mh,not_mem_nil->Ol,singleton_append->O9,mem_of_mem_take->iE
open Nat renaming le_refl->Cc,zero_le->Co,lt_of_lt_of_le->Ff,zero_add->Fg,mul_one->Ib,mul_le_mul->Ov,add_mul->Sg
open Option.some renaming injEq->A2
namespace Go.Proofs.YtcandeobhlfkbaaGreat
section
open Go Tryz
set_option maxRecDepth 100000
def Aci (a b:Pt):Nat->Pt
 | 0=>a++b
 | 1=>b
 | _=>[]
def atP (a b:Pt):Nat->Pt
 | 0=>a
 | _=>b
theorem Aqq (a b:Pt) {p:Nat} (h:p<2):Aci a b p=atP a b p++Aci a b (p+1):=by
 rcases p with _|_|p
 ·rfl
 ·simp [Aci,atP]
 ·omega
section
variable (S:List Ent) (tk:List Nat) (k:Nat)
theorem H9 (a b:Pt) (ha:a.length<=100000) (hb:b.length<=100000) (ia:PtI a) (ib:PtI b):cL prog 18 [Ag a,Ag b] S tk k=some (.int (ordF a b),S,tk,k):=by
 have r1:=fun S tk k=>Nv S tk k a aA ia;have r2:=fun S tk k=>Nv S tk k b aA ib;simp only [Ag] at r1 r2;unfold ordF;refine opP func18 ntmps18 ?_;by_cases c1:radF a<radF b
 ·have d1:decide (((radF a:Nat):Int)<((radF b:Nat):Int))=true:=aB
  rw [if_pos c1];simp (maxSteps:=10^6)+contextual(disch:=try exact dqd)only[ev1,simprocAttr,Cd,Cb,Ce,results18,Ag,r1,r2,d1]
 have d1:decide (((radF a:Nat):Int)<((radF b:Nat):Int))=false:=aB
 rw [if_neg c1];by_cases c2:radF b<radF a
 ·have d2:decide (((radF a:Nat):Int) > ((radF b:Nat):Int))=true:=aB
  rw [if_pos c2];simp (maxSteps:=10^6)+contextual(disch:=try exact dqd)only[ev1,simprocAttr,Cd,Cb,Ce,results18,Ag,r1,r2,d1,d2]
 have d2:decide (((radF a:Nat):Int) > ((radF b:Nat):Int))=false:=aB
 rw [if_neg c2];simp (maxSteps:=10^6)+contextual(disch:=try exact dqd)only[ev1,simprocAttr,Cd,Cb,Ce,results18,Ag,r1,r2,d1,d2];refine loop1 (P:=prog) (fun x st=>st.T.length=71/\(x.1<=2)/\(Gs a b none (a++b)=Gs a b x.2 (Aci a b x.1))/\getT st.T 0=Ag a/\getT st.T 1=Ag b/\getT st.T 7=.str (strO x.2)/\getT st.T 8=.bool x.2.isSome/\getT st.T 27=.frz [[Ag a],[Ag b]] .tight/\getT st.T 28=.int 2/\getT st.T 29=.int (x.1:Nat)/\st.S=[]) (fun x=>2 - x.1) (fun x=>.int (match Gs a b none (a++b) with|none=>0|some s=>if befF (findS s a) (findS s b)=true then -1 else 1)) (0,(none:Option ByteArray)) ?_ ?_;case refine_2=>exact ⟨rfl,Co _,rfl,rfl,rfl,rfl,rfl,rfl,rfl,rfl,rfl⟩
 rintro ⟨p,o⟩ ⟨T,S',tk',n'⟩ ⟨hl,hp,hE,e0,e1,e7,e8,e27,e28,e29,eS⟩ IH;simp only at hp hE e0 e1 e7 e8 e27 e28 e29 eS;subst eS;obtain ⟨g,hg,hT⟩:=Au hl;rw [hg] at e0 e1 e7 e8 e27 e28 e29;subst hT;clear hg hl;have OUT:=IH;clear IH;have hpw:=Bb (i:=p) aA;by_cases hlt:p<2
 ·have dp:decide ((p:Int)<(2:Int))=true:=aB
  have ma:nth [[Ag a],[Ag b]] p=some [Ag (atP a b p)]:=by
   rcases p with _|_|p
   ·rfl
   ·rfl
   ·omega
  have hal:(atP a b p).length<=100000:=by
   unfold atP; split <;> assumption
  rw [Aqq a b hlt] at hE;simp only [Ag] at ma;simp (maxSteps:=10^6)+contextual(disch:=try exact dqd)only[ev1,simprocAttr,Cd,Cb,Ce,results18,e0,e1,e7,e8,e27,e28,e29,dp,ma,Ag];refine loop1 (P:=prog) (fun x st=>st.T.length=71/\(x.1<=(atP a b p).length)/\(Gs a b none (a++b)=Gs a b x.2 ((atP a b p).drop x.1++Aci a b (p+1)))/\getT st.T 0=Ag a/\getT st.T 1=Ag b/\getT st.T 7=.str (strO x.2)/\getT st.T 8=.bool x.2.isSome/\getT st.T 27=.frz [[Ag a],[Ag b]] .tight/\getT st.T 28=.int 2/\getT st.T 29=.int (p:Nat)/\getT st.T 33=Ag (atP a b p)/\getT st.T 34=.int (atP a b p).length/\getT st.T 35=.int (x.1:Nat)/\st.S=[]) (fun x=>(atP a b p).length - x.1) (fun x=>.int (match Gs a b none (a++b) with|none=>0|some s=>if befF (findS s a) (findS s b)=true then -1 else 1)) (0,o) ?_ ?_;case refine_2=>exact ⟨rfl,Co _,by simpa using hE,rfl,rfl,rfl,rfl,rfl,rfl,rfl,rfl,rfl,rfl,rfl⟩
  rintro ⟨j,o2⟩ ⟨T,S',tk',n'⟩ ⟨hl,hj,mi,e0,e1,e7,e8,e27,e28,e29,e33,e34,e35,eS⟩ IH;simp only at hj mi e0 e1 e7 e8 e27 e28 e29 e33 e34 e35 eS;subst eS;obtain ⟨g,hg,hT⟩:=Au hl;rw [hg] at e0 e1 e7 e8 e27 e28 e29 e33 e34 e35;subst hT;clear hg hl;have n9:=Bb (i:=j) aA;by_cases ly:j<(atP a b p).length
  ·have dj:decide ((j:Int)<((atP a b p).length:Int))=true:=fI
   obtain ⟨c,hc⟩:=Af ly;have b9:nth ((atP a b p).map Bi) j=some (Bi c):=cN
   rw [Ay hc,Cr,Gs] at mi;have yj:=fun S tk k=>D5 S tk k a c.1 aA;have yk:=fun S tk k=>D5 S tk k b c.1 aA;simp only [Ag] at yj yk;simp only [Bi] at b9;have stepf:∀ (d:Bool),(findS c.1 a != findS c.1 b)=d->∀ (q:Bool),Ajx o2 c.1=q->Gs a b none (a++b)=Gs a b (if (d && q)=true then some c.1 else o2) ((atP a b p).drop (j+1)++Aci a b (p+1)):=by
    intro d hd q hq; rw [mi,hd,hq]
   cases hd:(findS c.1 a != findS c.1 b) with
   | false =>
    simp (maxSteps:=10^6)+contextual(disch:=try exact dqd)only[ev1,simprocAttr,Cd,Cb,Ce,results18,e0,e1,e7,e8,e27,e28,e29,e33,e34,e35,dj,Ag,b9,n9,yj,yk,hd];exact IH (j+1,o2) _ aF ⟨rfl,aE,stepf false hd _ rfl,rfl,rfl,rfl,rfl,rfl,rfl,rfl,rfl,rfl,rfl,rfl⟩
   | true =>
    cases o2 with
    | none =>
     simp (maxSteps:=10^6)+contextual(disch:=try exact dqd)only[ev1,simprocAttr,Cd,Cb,Ce,results18,e0,e1,e7,e8,e27,e28,e29,e33,e34,e35,dj,Ag,b9,n9,yj,yk,hd,Option.isSome];exact IH (j+1,some c.1) _ aF ⟨rfl,aE,stepf true hd true rfl,rfl,rfl,rfl,rfl,rfl,rfl,rfl,rfl,rfl,rfl,rfl⟩
    | some t =>
     cases hs:sLt c.1 t with
     | true =>
      simp (maxSteps:=10^6)+contextual(disch:=try exact dqd)only[ev1,simprocAttr,Cd,Cb,Ce,results18,e0,e1,e7,e8,e27,e28,e29,e33,e34,e35,dj,Ag,b9,n9,yj,yk,hd,Option.isSome,strO,hs];exact IH (j+1,some c.1) _ aF ⟨rfl,aE,stepf true hd true hs,rfl,rfl,rfl,rfl,rfl,rfl,rfl,rfl,rfl,rfl,rfl⟩
     | false =>
      simp (maxSteps:=10^6)+contextual(disch:=try exact dqd)only[ev1,simprocAttr,Cd,Cb,Ce,results18,e0,e1,e7,e8,e27,e28,e29,e33,e34,e35,dj,Ag,b9,n9,yj,yk,hd,Option.isSome,strO,hs];exact IH (j+1,some t) _ aF ⟨rfl,aE,stepf true hd false hs,rfl,rfl,rfl,rfl,rfl,rfl,rfl,rfl,rfl,rfl,rfl⟩
  ·have dj:decide ((j:Int)<((atP a b p).length:Int))=false:=fI
   have sv:j=(atP a b p).length:=aA
   rw [sv,Fo,Cw] at mi;simp (maxSteps:=10^6)+contextual(disch:=try exact dqd)only[ev1,simprocAttr,Cd,Cb,Ce,results18,e0,e1,e7,e8,e27,e28,e29,e33,e34,e35,dj,Ag,hpw];exact OUT (p+1,o2) _ aF ⟨rfl,aE,mi,rfl,rfl,rfl,rfl,rfl,rfl,rfl,rfl⟩
 ·have dp:decide ((p:Int)<(2:Int))=false:=aB
  have hpe:p=2:=aA
  rw [hpe,show Aci a b 2=[] from rfl,Gs] at hE;rw [hE];cases o with
  | none =>
   simp (maxSteps:=10^6)+contextual(disch:=try exact dqd)only[ev1,simprocAttr,Cd,Cb,Ce,results18,e0,e1,e7,e8,e27,e28,e29,dp,Ag,Option.isSome]
  | some s =>
   have yj:=fun S tk k=>D5 S tk k a s aA;have yk:=fun S tk k=>D5 S tk k b s aA;have hB:=fun S tk k=>Xf S tk k (findS s a) (findS s b) (Rw ia s) (Rw ib s);simp only [Ag] at yj yk;cases t7:befF (findS s a) (findS s b) with
   | true =>
    exact Ya0h
   | false =>
    exact Ya0h
end
end
section
open Go Tryz
set_option maxRecDepth 100000
abbrev RowT:=List (ByteArray × Int) × Int × Bool
def rowC (r:RowT):List AV:=[Ag r.1,.prim (.int .i64 r.2.1),.prim (.bool r.2.2)]
def Ap (l:List RowT):AV:=.frz (l.map rowC) .unk
theorem G1 {l:List RowT} {i:Nat} {r:RowT} (h:nth l i=some r):nth (l.map rowC) i=some (rowC r):=dB
theorem Qq {l:List (ByteArray × Int)} {i:Nat} {c:ByteArray × Int} (h:nth l i=some c):nth (l.map Bi) i=some (Bi c):=dB
theorem Xi {l:List ByteArray} {i:Nat} {s:ByteArray} (h:nth l i=some s):nth (l.map strC) i=some [.prim (.string s)]:=dB
theorem G3 (l:List ByteArray):B9 1 (l.map strC)=true:=Gm (f:=strC) (sz:=1) (fun _=>rfl) l
def Ed (l:List RowT):List ByteArray:=(l.map fun r=>r.1.map (·.1)).flatten
def B4 (l:List RowT):List ByteArray:=uniS (Ed l)
theorem Af9 (l:List RowT) (r:RowT):Ed (l++[r])=Ed l++r.1.map (·.1):=by simp [Ed]
theorem Ez {α:Type} : ∀ {l:List α} {i:Nat} {x:α},nth l i=some x->l.take (i+1)=l.take i++[x]
 | a :: l,0,x,h=>dV
 | a :: l,i+1,x,h=>by simp only [F1,Cr,Ez (l:=l) (i:=i) h]
 | [],_,_,h=>bQ
def fewC (l:List RowT):Prop:=∀ r ∈ l,r.1.length<=24
theorem Aaf:∀ {l:List RowT},fewC l->(Ed l).length<=24*l.length
 | [],_=>by simp [Ed]
 | r :: l,h=>by
  have h1:=h r (by simp);have h2:=Aaf (l:=l) fun x hx=>h x bJ;simp only [Ed,Cp,Fx,Cs,Fq,Ck] at h2 ⊢;omega
theorem K7 {α:Type} {l:List α} {i:Nat} {x:α} (h:nth l i=some x):x ∈ l:=Ik (by rw [Ae] at h; exact h)
theorem Z0:∀ (l:List ByteArray) (s:ByteArray),∃ i,i<=l.length/\(∀ j x,j<i->nth l j=some x->sLt x s=true)/\(∀ x,nth l i=some x->sLt x s=false) /\
  putS l s=l.take i++[s]++l.drop (match nth l i with|some x=>if sEq x s=true then i+1 else i|none=>i)
 | [],s=>⟨0,Cc _,fun j x h=>aA,fun x h=>bQ,rfl⟩
 | y :: r,s=>by
  cases h1:sLt y s with
  | true =>
   obtain ⟨i,a,b,c,d⟩:=Z0 r s;refine ⟨i+1,by simp; exact a,fun j x hj hx=>?_,c,?_⟩
   ·cases j with
    | zero=>simp only [nth,A2] at hx; subst hx; exact h1
    | succ j=>exact b j x aA hx
   ·rw [putS,if_pos h1,d];simp only [nth];cases nth r i with
    | none=>simp
    | some x=>by_cases h:sEq x s=true <;> simp [h]
  | false =>
   refine ⟨0,Co _,fun j x hj=>aA,fun x hx=>?_,?_⟩
   ·simp only [nth,A2] at hx; subst hx; exact h1
   ·rw [putS,if_neg dR];simp only [nth];by_cases h:sEq y s=true
    ·have:y=s:=by rw [Kj] at h; simpa using h
     rw [if_pos h,if_pos h,this]; simp
    ·rw [if_neg h,if_neg h]; simp
section
variable (S:List Ent) (tk:List Nat) (k:Nat)
theorem Ahh (l:List ByteArray) (s:ByteArray) (c:Cap) (hl:l.length<=100000):cL prog 75 [.frz (l.map strC) c,.str s] S tk k=some (Ar (putS l s),S,tk,k):=by
 obtain ⟨i,hj0,h2,h3,h4⟩:=Z0 l s;rw [h4];refine opP func75 ntmps75 ?_;simp (maxSteps:=10^6)+contextual(disch:=try exact dqd)only[ev1,simprocAttr,Cd,Cb,Ce,results75];refine loop1 (P:=prog) (fun x st=>st.T.length=52/\(x.1<=i)/\(x.2.1=l.take x.1)/\(Bd st.tk x.2.2 1=true)/\getT st.T 0=Ar l/\getT st.T 1=.str s/\getT st.T 5=.frz (x.2.1.map strC) x.2.2/\getT st.T 6=.int (x.1:Nat)/\st.S=[]) (fun x=>i - x.1) (fun x=>Ar (l.take i++[s]++l.drop (match nth l i with|some x=>if sEq x s=true then i+1 else i|none=>i))) (0,[],.nilc) ?_ ?_;case refine_2=>exact ⟨rfl,Co _,rfl,rfl,rfl,rfl,rfl,rfl,rfl⟩
 rintro ⟨j,out,c⟩ ⟨T,S',tk',n'⟩ ⟨hl,hj,ho,hok,e0,e1,e5,e6,eS⟩ IH;simp only at hj ho hok e0 e1 e5 e6 eS;subst eS;obtain ⟨g,hg,hT⟩:=Au hl;rw [hg] at e0 e1 e5 e6;subst hT;clear hg hl;have pb:out.length<=l.length:=by rw [ho]; simp; omega
 have htl:(l.map strC).take l.length=l.map strC:=Fc (by simp);have hr:=G3 out;have c8:=Dj hok;have b8:(out.map strC).length+1<=1048576:=aB
 have n9:=Bb (i:=j) aA;by_cases hlt:j<i
 ·have d1:decide ((j:Int)<(l.length:Int))=true:=aB
  obtain ⟨x,hx⟩:=Af (show j<l.length by omega);have hx':=Xi hx;have d2:=h2 j x hlt hx;have ta:=Ez hx;simp (maxSteps:=10^6)+contextual(disch:=try exact dqd)only[ev1,simprocAttr,Cd,Cb,Ce,results75,e0,e1,e5,e6,d1,d2,Ar,hx',hr,n9];exact IH (j+1,out++[x],Bg tk' c 1) _ aF ⟨rfl,aE,by rw [ta,ho],c8,aG,aG,aG,aG,aG⟩
 have sv:j=i:=aA
 subst sv;subst ho;have ab:=G3 (l.take j++[s]);have hr3:=G3 l;have dh:=Dj c8;simp only [Ij,Cp,Fi,strC] at ab;by_cases fu:j<l.length;case neg =>
  have d1:decide ((j:Int)<(l.length:Int))=false:=aB
  have hjn:nth l j=none:=by rw [Ae]; exact C9 aA
  have hr4:B9 1 (((l.map strC).take l.length).drop j)=true:=Za13
  have az:((l.take j).map strC++[[(.prim (.string s):AV)]]).length+(((l.map strC).take l.length).drop j).length<=1048576:=aB
  simp (maxSteps:=10^6)+contextual(disch:=try exact dqd)only[ev1,simprocAttr,Cd,Cb,Ce,results75,e0,e1,e5,e6,d1,Ar,hr,Kk,hr3,bound,hj0,Cc,Co,ab,hr4]
  simp [hjn,strC,htl]
 have d1:decide ((j:Int)<(l.length:Int))=true:=aB
 obtain ⟨x,hx⟩:=Af fu;have hx':=Xi hx;have d2:=h3 x hx;have zf:j+1<=l.length:=fu;cases d3:sEq x s with
 | true =>
  have hr4:B9 1 (((l.map strC).take l.length).drop (j+1))=true:=Za13
  have az:((l.take j).map strC++[[(.prim (.string s):AV)]]).length+(((l.map strC).take l.length).drop (j+1)).length<=1048576:=aB
  simp (maxSteps:=10^6)+contextual(disch:=try exact dqd)only[ev1,simprocAttr,Cd,Cb,Ce,results75,e0,e1,e5,e6,d1,d2,d3,hx',n9,Ar,hr,Kk,hr3,bound,zf,Cc,Co,ab,hr4];simp [hx,d3,strC,htl]
 | false =>
  have hr4:B9 1 (((l.map strC).take l.length).drop j)=true:=Za13
  have az:((l.take j).map strC++[[(.prim (.string s):AV)]]).length+(((l.map strC).take l.length).drop j).length<=1048576:=aB
  simp (maxSteps:=10^6)+contextual(disch:=try exact dqd)only[ev1,simprocAttr,Cd,Cb,Ce,results75,e0,e1,e5,e6,d1,d2,d3,hx',n9,Ar,hr,Kk,hr3,bound,hj0,Cc,Co,ab,hr4];simp [hx,d3,strC,htl]
theorem Ahg (l:List ByteArray) (s:ByteArray) (c c2:Cap) (hi:Inc l) (hl:l.length<=90000):cL prog 52 [.frz (l.map strC) c,.frz [[.prim (.string s)]] c2] S tk k=some (Ar (putS l s),S,tk,k):=by
 refine opP func52 ntmps52 ?_;simp (maxSteps:=10^6)+contextual(disch:=try exact dqd)only[ev1,simprocAttr,Cd,Cb,Ce,results52];refine loop1 (P:=prog) (fun x st=>st.T.length=33/\(x.1<=l.length)/\(x.2.1=l.take x.1)/\getT st.T 0=Ar l/\getT st.T 1=.frz [[.prim (.string s)]] .unk/\getT st.T 5=.frz (x.2.1.map strC) x.2.2/\getT st.T 8=Ar l/\getT st.T 9=.int l.length/\getT st.T 10=.int (x.1:Nat)/\st.S=[]) (fun x=>l.length - x.1) (fun x=>Ar (putS l s)) (0,[],.nilc) ?_ ?_;case refine_2=>exact ⟨rfl,Co _,rfl,rfl,rfl,rfl,rfl,rfl,rfl,rfl⟩
 rintro ⟨j,out,c3⟩ ⟨T,S',tk',n'⟩ ⟨hl,hj,ho,e0,e1,e5,e8,e9,e10,eS⟩ IH;simp only at hj ho e0 e1 e5 e8 e9 e10 eS;subst eS;obtain ⟨g,hg,hT⟩:=Au hl;rw [hg] at e0 e1 e5 e8 e9 e10;subst hT;clear hg hl;have n9:=Bb (i:=j) aA;have pb:out.length<=l.length:=by rw [ho]; simp; omega
 by_cases hlt:j<l.length
 ·have d1:decide ((j:Int)<(l.length:Int))=true:=aI
  obtain ⟨x,hx⟩:=Af hlt;have hx':=Xi hx;have hP:=fun S tk k=>Ahh S tk k out x c3 aA;have hpe:putS out x=out++[x]:=Aem fun y hy=>by
   rw [ho] at hy;have h1:Inc (l.take j++l.drop j):=by rw [Mh]; exact hi
   exact (List.pairwise_append.1 h1).2.2 y hy x (by rw [Ay hx]; simp)
  rw [hpe] at hP;simp only [Ar] at hP;have ta:=Ez hx;simp (maxSteps:=10^6)+contextual(disch:=try exact dqd)only[ev1,simprocAttr,Cd,Cb,Ce,results52,e0,e1,e5,e8,e9,e10,d1,Ar,hx',n9,hP];exact IH (j+1,out++[x],.unk) _ aF ⟨rfl,aE,by rw [ta,ho],aG,aG,aG,aG,aG,aG,aG⟩
 ·have d1:decide ((j:Int)<(l.length:Int))=false:=aI
  have sv:j=l.length:=aA
  subst sv;rw [Gl] at ho;subst ho;have hP:=fun S tk k=>Ahh S tk k out s c3 aA;simp only [Ar] at hP;simp (maxSteps:=10^6)+contextual(disch:=try exact dqd)only[ev1,simprocAttr,Cd,Cb,Ce,results52,e0,e1,e5,e8,e9,e10,d1,Ar];refine loop1 (P:=prog) (fun x st=>st.T.length=33/\(x<=1)/\getT st.T 1=.frz [[.prim (.string s)]] .unk/\getT st.T 5=(if x=0 then .frz (out.map strC) c3 else Ar (putS out s))/\getT st.T 20=.frz [[.prim (.string s)]] .unk/\getT st.T 21=.int ((1:Nat):Int)/\getT st.T 22=.int (x:Nat)/\st.S=[]) (fun x=>1 - x) (fun x=>Ar (putS out s)) (0) ?_ ?_;case refine_2=>exact ⟨rfl,Co _,rfl,rfl,rfl,rfl,rfl,rfl⟩
  rintro j ⟨T,S',tk',n'⟩ ⟨hl,hj,e1,e5,e20,e21,e22,eS⟩ IH;subst eS;obtain ⟨g,hg,hT⟩:=Au hl;rw [hg] at e1 e5 e20 e21 e22;subst hT;clear hg hl;by_cases h0:j=0
  ·subst h0;rw [if_pos rfl] at e5;have d2:decide (((0:Nat):Int)<((1:Nat):Int))=true:=rfl;have a2e:Cf.wrap (((0:Nat):Int)+1)=((1:Nat):Int):=Ab aC;simp (maxSteps:=10^6)+contextual(disch:=try exact dqd)only[ev1,simprocAttr,Cd,Cb,Ce,results52,e1,e5,e20,e21,e22,d2,a2e,hP];exact IH (1) _ aF ⟨rfl,aE,aG,aG,aG,aG,aG,aG⟩
  ·have zf:j=1:=aA
   subst zf;rw [if_neg aA] at e5;have d2:decide (((1:Nat):Int)<((1:Nat):Int))=false:=rfl;simp (maxSteps:=10^6)+contextual(disch:=try exact dqd)only[ev1,simprocAttr,Cd,Cb,Ce,results52,e1,e5,e20,e21,e22,d2,Ar]
end
end
section
open Go Tryz
def intC (x:Int):List AV:=[.prim (.int .i64 x)]
def Px:Nat->List Int
 | 0=>[0]
 | n+1=>Px n++[((n+1:Nat):Int),-((n+1:Nat):Int)]
def Hc (most:Int):List Int:=if most<0\/8<most then [] else Px most.toNat
theorem Uf:∀ n,(Px n).length=2*n+1
 | 0=>rfl
 | n+1=>by simp only [Px,Cs,Uf n,Ck,Cu]; omega
def Aat (pt:Pt) (r:RowT):Bool:=(Hz r.1 r.2.1 pt).2 && (decide ((Hz r.1 r.2.1 pt).1<=0) && (!r.2.2 || (Hz r.1 r.2.1 pt).1 == 0))
def satF (l:List RowT) (pt:Pt):Bool:=l.all (Aat pt)
section
variable (S:List Ent) (tk:List Nat) (k:Nat)
theorem Nu (most:Int):cL prog 17 [.int most] S tk k=some (.frz ((Hc most).map intC) .unk,S,tk,k):=by
 refine opP func17 ntmps17 ?_;by_cases h0:most<0
 ·have d0:decide (most<0)=true:=aX
  simp (maxSteps:=10^6)+contextual(disch:=try exact dqd)only[ev1,simprocAttr,Cd,Cb,Ce,results17,d0];simp [Hc,h0]
 have d0:decide (most<0)=false:=aX
 by_cases h8:8<most
 ·have d8:decide (most > 8)=true:=by simpa using h8
  simp (maxSteps:=10^6)+contextual(disch:=try exact dqd)only[ev1,simprocAttr,Cd,Cb,Ce,results17,d0,d8];simp [Hc,h8]
 have d8:decide (most > 8)=false:=by simpa using h8
 obtain ⟨m,rfl⟩:∃ m:Nat,most=(m:Int):=⟨most.toNat,aA⟩;have hv:Hc (m:Int)=Px m:=by unfold Hc; rw [if_neg aA]; congr 1
 rw [hv];simp (maxSteps:=10^6)+contextual(disch:=try exact dqd)only[ev1,simprocAttr,Cd,Cb,Ce,results17,d0,d8];refine loop1 (P:=prog) (fun x st=>st.T.length=24/\(x.1<=m)/\(x.2.1=Px x.1)/\(Bd st.tk x.2.2 1=true)/\getT st.T 0=.int (m:Nat)/\getT st.T 3=.frz (x.2.1.map intC) x.2.2/\getT st.T 4=.int ((x.1+1:Nat):Int)/\st.S=[]) (fun x=>m - x.1) (fun x=>.frz ((Px m).map intC) .unk) (0,[0],.tight) ?_ ?_;case refine_2=>exact ⟨rfl,Co _,rfl,rfl,rfl,rfl,rfl,rfl⟩
 rintro ⟨i,out,c⟩ ⟨T,S',tk',n'⟩ ⟨hl,hi,ho,hok,e0,e3,e4,eS⟩ IH;simp only at hi ho hok e0 e3 e4 eS;subst eS;obtain ⟨g,hg,hT⟩:=Au hl;rw [hg] at e0 e3 e4;subst hT;clear hg hl;have hw:=Bb (i:=i+1) aA;have hneg:Cf.wrap (0 - ((i+1:Nat):Int))=-((i+1:Nat):Int):=aS
 by_cases hlt:i<m
 ·have d1:decide (((i+1:Nat):Int)<=((m:Nat):Int))=true:=aB
  have hr:B9 1 (out.map intC)=true:=Gm (f:=intC) (sz:=1) (fun _=>rfl) out;have b8:(out.map intC).length+[[(.prim (.int .i64 ((i+1:Nat):Int)):AV)],[.prim (.int .i64 (-((i+1:Nat):Int)))]].length<=1048576:=by
   rw [ho]; simp only [Fq,Uf,Ck,Cu]; omega
  have c8:=Dj hok;simp (maxSteps:=10^6)+contextual(disch:=try exact dqd)only[ev1,simprocAttr,Cd,Cb,Ce,results17,e0,e3,e4,d1,hw,hneg,hr];exact IH (i+1,out++[((i+1:Nat):Int),-((i+1:Nat):Int)],Bg tk' c 1) _ aF ⟨rfl,aE,by rw [ho]; rfl,c8,bI,bI,bI,bI⟩
 ·have d1:decide (((i+1:Nat):Int)<=((m:Nat):Int))=false:=aB
  have fh:i=m:=aA
  subst fh;simp (maxSteps:=10^6)+contextual(disch:=try exact dqd)only[ev1,simprocAttr,Cd,Cb,Ce,results17,e0,e3,e4,d1];rw [ho]
theorem An0 {l:List RowT} {i:Nat} {r:RowT} {pt:Pt} (h:nth l i=some r):satF (l.drop i) pt=(Aat pt r && satF (l.drop (i+1)) pt):=by
 rw [Ay h]; rfl
theorem Hf (l:List RowT) (pt:Pt) (hl:l.length<=1048576) (hr:∀ r ∈ l,r.1.length<=1048576) (hp:pt.length<=1048576):cL prog 20 [Ap l,Ag pt] S tk k=some (.bool (satF l pt),S,tk,k):=by
 refine opP func20 ntmps20 ?_;simp (maxSteps:=10^6)+contextual(disch:=try exact dqd)only[ev1,simprocAttr,Cd,Cb,Ce,results20,Ap,Ag];refine loop1 (P:=prog) (fun x st=>st.T.length=37/\(x<=l.length)/\(satF l pt=satF (l.drop x) pt)/\getT st.T 1=Ag pt/\getT st.T 9=Ap l/\getT st.T 10=.int l.length/\getT st.T 11=.int (x:Nat)/\st.S=[]) (fun x=>l.length - x) (fun x=>.bool (satF l pt)) (0) ?_ ?_;case refine_2=>exact ⟨rfl,Co _,rfl,rfl,rfl,rfl,rfl,rfl⟩
 rintro i ⟨T,S',tk',n'⟩ ⟨hl,hi,hE,e1,e9,e10,e11,eS⟩ IH;subst eS;obtain ⟨g,hg,hT⟩:=Au hl;rw [hg] at e1 e9 e10 e11;subst hT;clear hg hl;have dt:=Bb (i:=i) aA;by_cases hlt:i<l.length
 ·have d1:decide ((i:Int)<(l.length:Int))=true:=aI
  obtain ⟨r,hx⟩:=Af hlt;have hx':=G1 hx;have hV:=fun S tk k=>P5 S tk k r.1 r.2.1 pt (hr r (K7 hx)) hp;rw [An0 hx] at hE;unfold Aat at hE;simp only [rowC,Ag] at hx';simp only [linA,Ag] at hV;obtain ⟨⟨n,ok⟩,hv⟩:∃ q,Hz r.1 r.2.1 pt=q:=⟨_,rfl⟩;rw [hv] at hV hE;simp only at hV hE;cases ok with
  | false =>
   simp only [Fk] at hE;simp (maxSteps:=10^6)+contextual(disch:=try exact dqd)only[ev1,simprocAttr,Cd,Cb,Ce,results20,e1,e9,e10,e11,d1,Ap,Ag,hx',hV,dt];rw [hE]
  | true =>
   by_cases h0:n > 0
   ·have d2:decide (n > 0)=true:=aX
    have d3:decide (n<=0)=false:=aB
    rw [d3,Fs,Fk,Fk] at hE;simp (maxSteps:=10^6)+contextual(disch:=try exact dqd)only[ev1,simprocAttr,Cd,Cb,Ce,results20,e1,e9,e10,e11,d1,Ap,Ag,hx',hV,dt,d2];rw [hE]
   ·have d2:decide (n > 0)=false:=aX
    have d3:decide (n<=0)=true:=aB
    rw [d3,Fs,Fs] at hE;cases he:r.2.2 with
    | false =>
     rw [he,T3,Sr,Fs] at hE;rw [he] at hx';simp (maxSteps:=10^6)+contextual(disch:=try exact dqd)only[ev1,simprocAttr,Cd,Cb,Ce,results20,e1,e9,e10,e11,d1,Ap,Ag,hx',hV,dt,d2];exact IH (i+1) _ aF ⟨rfl,aE,hE,bI,bI,bI,bI,bI⟩
    | true =>
     rw [he,Sz,I1] at hE;rw [he] at hx';by_cases hz:n=0
     ·have d4:(n != 0)=false:=bN
      have d5:(n == 0)=true:=bN
      rw [d5,Fs] at hE;simp (maxSteps:=10^6)+contextual(disch:=try exact dqd)only[ev1,simprocAttr,Cd,Cb,Ce,results20,e1,e9,e10,e11,d1,Ap,Ag,hx',hV,dt,d2,d4];exact IH (i+1) _ aF ⟨rfl,aE,hE,bI,bI,bI,bI,bI⟩
     ·have d4:(n != 0)=true:=bN
      have d5:(n == 0)=false:=bN
      rw [d5,Fk] at hE;simp (maxSteps:=10^6)+contextual(disch:=try exact dqd)only[ev1,simprocAttr,Cd,Cb,Ce,results20,e1,e9,e10,e11,d1,Ap,Ag,hx',hV,dt,d2,d4];rw [hE]
 ·have d1:decide ((i:Int)<(l.length:Int))=false:=aI
  have fh:i=l.length:=aA
  rw [fh,Fo] at hE;simp (maxSteps:=10^6)+contextual(disch:=try exact dqd)only[ev1,simprocAttr,Cd,Cb,Ce,results20,e1,e9,e10,e11,d1,Ap,Ag];rw [hE]; rfl
end
end
section
open Go Tryz
set_option maxRecDepth 100000
theorem Vq {l:List RowT} {i:Nat} {r:RowT} (h:nth l i=some r):Ed (l.take (i+1))=Ed (l.take i)++r.1.map (·.1):=by
 rw [Ez h,Af9]
theorem Amy {l:List RowT} (h:fewC l) (i:Nat):fewC (l.take i):=fun r hr=>h r (iE hr)
theorem Ai6 {l:List RowT} (h:fewC l) (hl:l.length<=64) (i:Nat):(Ed (l.take i)).length<=1536:=by
 have h1:=Aaf (Amy h i);have:(l.take i).length<=64:=aB
 omega
theorem Aq2 (l:List ByteArray):(uniS l).length<=l.length:=(Ju l).2.2
section
variable (S:List Ent) (tk:List Nat) (k:Nat)
theorem Yh (l:List RowT) (hf:fewC l) (hl:l.length<=64):cL prog 34 [Ap l] S tk k=some (Ar (B4 l),S,tk,k):=by
 refine opP func34 ntmps34 ?_;simp (maxSteps:=10^6)+contextual(disch:=try exact dqd)only[ev1,simprocAttr,Cd,Cb,Ce,results34,Ap];refine loop1 (P:=prog) (fun x st=>st.T.length=30/\(x.1<=l.length)/\(x.2.1=uniS (Ed (l.take x.1)))/\getT st.T 3=.frz (x.2.1.map strC) x.2.2/\getT st.T 8=Ap l/\getT st.T 9=.int l.length/\getT st.T 10=.int (x.1:Nat)/\st.S=[]) (fun x=>l.length - x.1) (fun x=>Ar (B4 l)) (0,[],.nilc) ?_ ?_;case refine_2=>exact ⟨rfl,Co _,rfl,rfl,rfl,rfl,rfl,rfl⟩
 rintro ⟨i,out,c⟩ ⟨T,S',tk',n'⟩ ⟨hl,hi,ho,e3,e8,e9,e10,eS⟩ IH;simp only at hi ho e3 e8 e9 e10 eS;subst eS;obtain ⟨g,hg,hT⟩:=Au hl;rw [hg] at e3 e8 e9 e10;subst hT;clear hg hl;have OUT:=IH;clear IH;have dt:=Bb (i:=i) aA;by_cases hlt:i<l.length
 ·have d1:decide ((i:Int)<(l.length:Int))=true:=aI
  obtain ⟨r,hx⟩:=Af hlt;have hx':=G1 hx;have jp:=hf r (K7 hx);have hnl:=Ai6 hf hl i;have jn:=Vq hx;simp only [rowC,Ag] at hx';simp (maxSteps:=10^6)+contextual(disch:=try exact dqd)only[ev1,simprocAttr,Cd,Cb,Ce,results34,e3,e8,e9,e10,d1,Ap,hx'];refine loop1 (P:=prog) (fun x st=>st.T.length=30/\(x.1<=r.1.length)/\(x.2.1=uniS (Ed (l.take i)++(r.1.take x.1).map (·.1)))/\getT st.T 3=.frz (x.2.1.map strC) x.2.2/\getT st.T 8=Ap l/\getT st.T 9=.int l.length/\getT st.T 10=.int (i:Nat)/\getT st.T 16=.frz (r.1.map Bi) .unk/\getT st.T 17=.int r.1.length/\getT st.T 18=.int (x.1:Nat)/\st.S=[⟨n',[.frz (r.1.map Bi) .unk,.int r.2.1,.bool r.2.2]⟩]) (fun x=>r.1.length - x.1) (fun x=>Ar (B4 l)) (0,out,c) ?_ ?_;case refine_2=>exact ⟨rfl,Co _,by simp [ho],rfl,rfl,rfl,rfl,rfl,rfl,rfl,rfl⟩
  rintro ⟨j,out2,c2⟩ ⟨T,S',tk',n'⟩ ⟨hl,hj,il,e3,e8,e9,e10,e16,e17,e18,eS⟩ IH;simp only at hj il e3 e8 e9 e10 e16 e17 e18 eS;subst eS;obtain ⟨g,hg,hT⟩:=Au hl;rw [hg] at e3 e8 e9 e10 e16 e17 e18;subst hT;clear hg hl;have n9:=Bb (i:=j) aA;have tv:(Ed (l.take i)++(r.1.take j).map (·.1)).length<=1600:=aB
  have hul:=Aq2 (Ed (l.take i)++(r.1.take j).map (·.1));by_cases ca:j<r.1.length
  ·have d2:decide ((j:Int)<(r.1.length:Int))=true:=cH
   obtain ⟨q,hq⟩:=Af ca;have hq':=Qq hq;simp only [Bi] at hq';have hU:=fun S tk k=>Ahg S tk k out2 q.1 c2 .tight (by rw [il]; exact (Ju _).1) (by rw [il]; omega);have ta:=Ez hq;simp only [Ar] at hU;simp (maxSteps:=10^6)+contextual(disch:=try exact dqd)only[ev1,simprocAttr,Cd,Cb,Ce,results34,e3,e8,e9,e10,e16,e17,e18,d2,hq',n9,hU];exact IH (j+1,putS out2 q.1,.unk) _ aF ⟨rfl,aE,by rw [ta,Ij,<- Fa,Cp,Fi,An8,il],aG,aG,aG,aG,aG,aG,aG,aG⟩
  ·have d2:decide ((j:Int)<(r.1.length:Int))=false:=cH
   have sv:j=r.1.length:=aA
   subst sv;rw [Gl] at il;simp (maxSteps:=10^6)+contextual(disch:=try exact dqd)only[ev1,simprocAttr,Cd,Cb,Ce,results34,e3,e8,e9,e10,e16,e17,e18,d2,dt];exact OUT (i+1,out2,c2) _ aF ⟨rfl,aE,by rw [jn,il],aG,aG,aG,aG,aG⟩
 ·have d1:decide ((i:Int)<(l.length:Int))=false:=aI
  have fh:i=l.length:=aA
  subst fh;rw [Gl] at ho;simp (maxSteps:=10^6)+contextual(disch:=try exact dqd)only[ev1,simprocAttr,Cd,Cb,Ce,results34,e3,e8,e9,e10,d1,Ap];rw [ho]; rfl
theorem Ey (l:List RowT) (hf:fewC l) (hl:l.length<=64):cL prog 27 [Ap l] S tk k=some (Ar (B4 l),S,tk,k):=by
 refine opP func27 ntmps27 ?_;simp (maxSteps:=10^6)+contextual(disch:=try exact dqd)only[ev1,simprocAttr,Cd,Cb,Ce,results27,Ap];refine loop1 (P:=prog) (fun x st=>st.T.length=31/\(x.1<=l.length)/\(x.2.1=Ed (l.take x.1))/\(Bd st.tk x.2.2 1=true)/\((!x.2.1.isEmpty || R7 x.2.2)=true)/\getT st.T 3=.frz (x.2.1.map strC) x.2.2/\getT st.T 8=Ap l/\getT st.T 9=.int l.length/\getT st.T 10=.int (x.1:Nat)/\st.S=[]) (fun x=>l.length - x.1) (fun x=>Ar (B4 l)) (0,[],.nilc) ?_ ?_;case refine_2=>exact ⟨rfl,Co _,rfl,rfl,rfl,rfl,rfl,rfl,rfl,rfl⟩
 rintro ⟨i,out,c⟩ ⟨T,S',tk',n'⟩ ⟨hl,hi,ho,hok,hc,e3,e8,e9,e10,eS⟩ IH;simp only at hi ho hok hc e3 e8 e9 e10 eS;subst eS;obtain ⟨g,hg,hT⟩:=Au hl;rw [hg] at e3 e8 e9 e10;subst hT;clear hg hl;have OUT:=IH;clear IH;have dt:=Bb (i:=i) aA;have hnl:=Ai6 hf hl i;by_cases hlt:i<l.length
 ·have d1:decide ((i:Int)<(l.length:Int))=true:=aI
  obtain ⟨r,hx⟩:=Af hlt;have hx':=G1 hx;have jp:=hf r (K7 hx);have jn:=Vq hx;simp only [rowC,Ag] at hx';simp (maxSteps:=10^6)+contextual(disch:=try exact dqd)only[ev1,simprocAttr,Cd,Cb,Ce,results27,e3,e8,e9,e10,d1,Ap,hx'];refine loop1 (P:=prog) (fun x st=>st.T.length=31/\(x.1<=r.1.length)/\(x.2.1=Ed (l.take i)++(r.1.take x.1).map (·.1))/\(Bd st.tk x.2.2 1=true)/\((!x.2.1.isEmpty || R7 x.2.2)=true)/\getT st.T 3=.frz (x.2.1.map strC) x.2.2/\getT st.T 8=Ap l/\getT st.T 9=.int l.length/\getT st.T 10=.int (i:Nat)/\getT st.T 16=.frz (r.1.map Bi) .unk/\getT st.T 17=.int r.1.length/\getT st.T 18=.int (x.1:Nat)/\st.S=[⟨n',[.frz (r.1.map Bi) .unk,.int r.2.1,.bool r.2.2]⟩]) (fun x=>r.1.length - x.1) (fun x=>Ar (B4 l)) (0,out,c) ?_ ?_;case refine_2=>exact ⟨rfl,Co _,by simp [ho],hok,hc,rfl,rfl,rfl,rfl,rfl,rfl,rfl,rfl⟩
  rintro ⟨j,out2,c2⟩ ⟨T,S',tk',n'⟩ ⟨hl,hj,il,dh,hc2,e3,e8,e9,e10,e16,e17,e18,eS⟩ IH;simp only at hj il dh hc2 e3 e8 e9 e10 e16 e17 e18 eS;subst eS;obtain ⟨g,hg,hT⟩:=Au hl;rw [hg] at e3 e8 e9 e10 e16 e17 e18;subst hT;clear hg hl;have n9:=Bb (i:=j) aA;have tv:out2.length<=1600:=by rw [il]; simp; omega
  have hr:=G3 out2;have c8:=Dj dh;have b8:(out2.map strC).length+1<=1048576:=aB
  by_cases ca:j<r.1.length
  ·have d2:decide ((j:Int)<(r.1.length:Int))=true:=cH
   obtain ⟨q,hq⟩:=Af ca;have hq':=Qq hq;simp only [Bi] at hq';have ta:=Ez hq;simp (maxSteps:=10^6)+contextual(disch:=try exact dqd)only[ev1,simprocAttr,Cd,Cb,Ce,results27,e3,e8,e9,e10,e16,e17,e18,d2,hq',n9,hr];exact IH (j+1,out2++[q.1],Bg tk' c2 1) _ aF ⟨rfl,aE,by rw [ta,Ij,<- Fa,il]; rfl,c8,by simp,aG,aG,aG,aG,aG,aG,aG,aG⟩
  ·have d2:decide ((j:Int)<(r.1.length:Int))=false:=cH
   have sv:j=r.1.length:=aA
   subst sv;rw [Gl] at il;simp (maxSteps:=10^6)+contextual(disch:=try exact dqd)only[ev1,simprocAttr,Cd,Cb,Ce,results27,e3,e8,e9,e10,e16,e17,e18,d2,dt];exact OUT (i+1,out2,c2) _ aF ⟨rfl,aE,by rw [jn,il],dh,hc2,aG,aG,aG,aG,aG⟩
 ·have d1:decide ((i:Int)<(l.length:Int))=false:=aI
  have fh:i=l.length:=aA
  subst fh;rw [Gl] at ho hnl;have hU:=fun S tk k=>Ab5 S tk k out c (by rw [ho]; omega) hc;simp only [Ar] at hU;simp (maxSteps:=10^6)+contextual(disch:=try exact dqd)only[ev1,simprocAttr,Cd,Cb,Ce,results27,e3,e8,e9,e10,d1,Ap,hU];rw [ho]; rfl
def D7:List RowT->Int
 | []=>0
 | r :: l=>if B5 r.1 r.2.1 != 0 then B5 r.1 r.2.1 else D7 l
def sysE (l:List RowT):Int:=if 64<l.length then 7 else if D7 l != 0 then D7 l else if 24<(B4 l).length then 7 else 0
theorem Y5 {cs:List (ByteArray × Int)} {n:Int} (h:B5 cs n=0):cs.length<=24:=by
 unfold B5 at h;split at h
 ·cases h
 ·omega
theorem Ky:∀ {l:List RowT},D7 l=0->fewC l
 | [],_=>fun r hr=>by simp at hr
 | r :: l,h=>by
  unfold D7 at h;by_cases h0:B5 r.1 r.2.1=0
  ·rw [h0] at h;simp only [bne_self_eq_false,C8,if_false] at h;intro x hx;rcases Cn.1 hx with rfl|hx
   ·exact Y5 h0
   ·exact Ky h x hx
  ·exact Ya1q
theorem Xz (l:List RowT) (ie:∀ r ∈ l,r.1.length<=1048576):cL prog 21 [Ap l] S tk k=some (.int (sysE l),S,tk,k):=by
 refine opP func21 ntmps21 ?_;by_cases ve:64<l.length
 ·exact Ya0f
 have d0:decide ((l.length:Int) > 64)=false:=aB
 simp (maxSteps:=10^6)+contextual(disch:=try exact dqd)only[ev1,simprocAttr,Cd,Cb,Ce,results21,Ap,d0];refine loop1 (P:=prog) (fun x st=>st.T.length=26/\(x<=l.length)/\(D7 l=D7 (l.drop x))/\getT st.T 0=Ap l/\getT st.T 9=Ap l/\getT st.T 10=.int l.length/\getT st.T 11=.int (x:Nat)/\st.S=[]) (fun x=>l.length - x) (fun x=>.int (sysE l)) (0) ?_ ?_;case refine_2=>exact ⟨rfl,Co _,rfl,rfl,rfl,rfl,rfl,rfl⟩
 rintro i ⟨T,S',tk',n'⟩ ⟨hl,hi,hE,e0,e9,e10,e11,eS⟩ IH;subst eS;obtain ⟨g,hg,hT⟩:=Au hl;rw [hg] at e0 e9 e10 e11;subst hT;clear hg hl;have dt:=Bb (i:=i) aA;by_cases hlt:i<l.length
 ·have d1:decide ((i:Int)<(l.length:Int))=true:=aI
  obtain ⟨r,hx⟩:=Af hlt;have hx':=G1 hx;have hC:=fun S tk k=>K3 S tk k r.1 r.2.1 (ie r (K7 hx));simp only [rowC,Ag] at hx';simp only [linA,Ag] at hC;rw [Ay hx,D7] at hE;generalize B5 r.1 r.2.1=e at *;cases h0:(e != 0) with
  | true =>
   exact Ya04
  | false =>
   rw [h0,if_neg (by simp)] at hE;simp (maxSteps:=10^6)+contextual(disch:=try exact dqd)only[ev1,simprocAttr,Cd,Cb,Ce,results21,e0,e9,e10,e11,d1,Ap,hx',hC,dt,h0];exact IH (i+1) _ aF ⟨rfl,aE,hE,aG,aG,aG,aG,aG⟩
 ·exact Ya8
theorem M2 {l:List RowT} (h:sysE l=0):fewC l/\l.length<=64/\(B4 l).length<=24/\D7 l=0:=by
 unfold sysE at h;split at h
 ·cases h
 ·split at h
  ·rename_i h1 h2; rw [h] at h2; cases h2
  ·rename_i h1 h2;split at h
   ·cases h
   ·have h0:D7 l=0:=bR
    exact ⟨Ky h0,aA,aA,h0⟩
end
end
section
open Go Tryz
set_option maxRecDepth 100000
section
variable (S:List Ent) (tk:List Nat) (k:Nat)
theorem U0 (cs:List (ByteArray × Int)) (n:Int):cL prog 13 [linA cs n] S tk k=some (.int (B5 cs n),S,tk,k):=by
 by_cases h:cs.length<=1048576
 ·exact Ahi S tk k cs n h
 ·have d0:decide ((cs.length:Int) > 24)=true:=aB
  refine opP func13 ntmps13 ?_;simp (maxSteps:=10^6)+contextual(disch:=try exact dqd)only[ev1,simprocAttr,Cd,Cb,Ce,results13,linA,Ag,d0];unfold B5; rw [if_pos aA]
theorem Xc (cs:List (ByteArray × Int)) (n:Int):cL prog 28 [linA cs n] S tk k=some (.int (B5 cs n),S,tk,k):=by
 by_cases h:cs.length<=1048576
 ·exact K3 S tk k cs n h
 ·have d0:decide ((cs.length:Int) > 24)=true:=aB
  refine opP func28 ntmps28 ?_;simp (maxSteps:=10^6)+contextual(disch:=try exact dqd)only[ev1,simprocAttr,Cd,Cb,Ce,results28,linA,Ag,d0];unfold B5; rw [if_pos aA]
theorem Aff (l:List RowT):cL prog 33 [Ap l] S tk k=some (.int (sysE l),S,tk,k):=by
 refine opP func33 ntmps33 ?_;by_cases ve:64<l.length
 ·have d0:decide ((l.length:Int) > 64)=true:=aB
  simp (maxSteps:=10^6)+contextual(disch:=try exact dqd)only[ev1,simprocAttr,Cd,Cb,Ce,results33,Ap,d0];simp [sysE,ve]
 have d0:decide ((l.length:Int) > 64)=false:=aB
 simp (maxSteps:=10^6)+contextual(disch:=try exact dqd)only[ev1,simprocAttr,Cd,Cb,Ce,results33,Ap,d0];refine loop1 (P:=prog) (fun x st=>st.T.length=26/\(x<=l.length)/\(D7 l=D7 (l.drop x))/\getT st.T 0=Ap l/\getT st.T 9=Ap l/\getT st.T 10=.int l.length/\getT st.T 11=.int (x:Nat)/\st.S=[]) (fun x=>l.length - x) (fun x=>.int (sysE l)) (0) ?_ ?_;case refine_2=>exact ⟨rfl,Co _,rfl,rfl,rfl,rfl,rfl,rfl⟩
 rintro i ⟨T,S',tk',n'⟩ ⟨hl,hi,hE,e0,e9,e10,e11,eS⟩ IH;subst eS;obtain ⟨g,hg,hT⟩:=Au hl;rw [hg] at e0 e9 e10 e11;subst hT;clear hg hl;have dt:=Bb (i:=i) aA;by_cases hlt:i<l.length
 ·have d1:decide ((i:Int)<(l.length:Int))=true:=aI
  obtain ⟨r,hx⟩:=Af hlt;have hx':=G1 hx;have hC:=fun S tk k=>U0 S tk k r.1 r.2.1;simp only [rowC,Ag] at hx';simp only [linA,Ag] at hC;rw [Ay hx,D7] at hE;generalize B5 r.1 r.2.1=e at *;cases h0:(e != 0) with
  | true =>
   simp (maxSteps:=10^6)+contextual(disch:=try exact dqd)only[ev1,simprocAttr,Cd,Cb,Ce,results33,e0,e9,e10,e11,d1,Ap,hx',hC,dt,h0];rw [h0,if_pos rfl] at hE;unfold sysE;rw [if_neg ve,hE,if_pos h0]
  | false =>
   rw [h0,if_neg (by simp)] at hE;simp (maxSteps:=10^6)+contextual(disch:=try exact dqd)only[ev1,simprocAttr,Cd,Cb,Ce,results33,e0,e9,e10,e11,d1,Ap,hx',hC,dt,h0];exact IH (i+1) _ aF ⟨rfl,aE,hE,rfl,rfl,rfl,rfl,rfl⟩
 ·have d1:decide ((i:Int)<(l.length:Int))=false:=aI
  have fh:i=l.length:=aA
  subst fh;rw [Fo] at hE;have hE0:D7 l=0:=hE;have hV:=fun S tk k=>Yh S tk k l (Ky hE0) aA;have hs:sysE l=if 24<(B4 l).length then 7 else 0:=Za1z
  rw [hs];simp only [Ap,Ar] at hV;by_cases zk:24<(B4 l).length
  ·have d2:decide (((B4 l).length:Int) > 24)=true:=aB
   simp (maxSteps:=10^6)+contextual(disch:=try exact dqd)only[ev1,simprocAttr,Cd,Cb,Ce,results33,e0,e9,e10,e11,d1,Ap,hV,d2];rw [if_pos zk]
  ·have d2:decide (((B4 l).length:Int) > 24)=false:=aB
   simp (maxSteps:=10^6)+contextual(disch:=try exact dqd)only[ev1,simprocAttr,Cd,Cb,Ce,results33,e0,e9,e10,e11,d1,Ap,hV,d2];rw [if_neg zk]
theorem Mi (l:List RowT):cL prog 21 [Ap l] S tk k=some (.int (sysE l),S,tk,k):=by
 refine opP func21 ntmps21 ?_;by_cases ve:64<l.length
 ·exact Ya0f
 have d0:decide ((l.length:Int) > 64)=false:=aB
 simp (maxSteps:=10^6)+contextual(disch:=try exact dqd)only[ev1,simprocAttr,Cd,Cb,Ce,results21,Ap,d0];refine loop1 (P:=prog) (fun x st=>st.T.length=26/\(x<=l.length)/\(D7 l=D7 (l.drop x))/\getT st.T 0=Ap l/\getT st.T 9=Ap l/\getT st.T 10=.int l.length/\getT st.T 11=.int (x:Nat)/\st.S=[]) (fun x=>l.length - x) (fun x=>.int (sysE l)) (0) ?_ ?_;case refine_2=>exact ⟨rfl,Co _,rfl,rfl,rfl,rfl,rfl,rfl⟩
 rintro i ⟨T,S',tk',n'⟩ ⟨hl,hi,hE,e0,e9,e10,e11,eS⟩ IH;subst eS;obtain ⟨g,hg,hT⟩:=Au hl;rw [hg] at e0 e9 e10 e11;subst hT;clear hg hl;have dt:=Bb (i:=i) aA;by_cases hlt:i<l.length
 ·have d1:decide ((i:Int)<(l.length:Int))=true:=aI
  obtain ⟨r,hx⟩:=Af hlt;have hx':=G1 hx;have hC:=fun S tk k=>Xc S tk k r.1 r.2.1;simp only [rowC,Ag] at hx';simp only [linA,Ag] at hC;rw [Ay hx,D7] at hE;generalize B5 r.1 r.2.1=e at *;cases h0:(e != 0) with
  | true =>
   exact Ya04
  | false =>
   rw [h0,if_neg (by simp)] at hE;simp (maxSteps:=10^6)+contextual(disch:=try exact dqd)only[ev1,simprocAttr,Cd,Cb,Ce,results21,e0,e9,e10,e11,d1,Ap,hx',hC,dt,h0];exact IH (i+1) _ aF ⟨rfl,aE,hE,rfl,rfl,rfl,rfl,rfl⟩
 ·exact Ya8
def H0 (l:List RowT):List ByteArray:=if sysE l=0 then B4 l else []
theorem Ahj (l:List RowT):cL prog 14 [Ap l] S tk k=some (Ar (H0 l),S,tk,k):=by
 have hC:=fun S tk k=>Aff S tk k l;by_cases h:sysE l=0
 ·obtain ⟨h1,h2,-,-⟩:=M2 h;have hV:=fun S tk k=>Yh S tk k l h1 h2;rw [h] at hC;have d0:((0:Int) != 0)=false:=rfl;simp only [Ap,Ar] at hC hV;have hv:H0 l=B4 l:=if_pos h;rw [hv];refine opP func14 ntmps14 ?_;simp (maxSteps:=10^6)+contextual(disch:=try exact dqd)only[ev1,simprocAttr,Cd,Cb,Ce,results14,Ap,Ar,hC,hV,d0]
 ·have hv:H0 l=[]:=if_neg h;rw [hv];have d0:(sysE l != 0)=true:=aJ
  simp only [Ap] at hC;refine opP func14 ntmps14 ?_;simp (maxSteps:=10^6)+contextual(disch:=try exact dqd)only[ev1,simprocAttr,Cd,Cb,Ce,results14,Ap,Ar,hC,d0]
theorem X0 (l:List RowT):cL prog 22 [Ap l] S tk k=some (Ar (H0 l),S,tk,k):=by
 have hC:=fun S tk k=>Mi S tk k l;by_cases h:sysE l=0
 ·obtain ⟨h1,h2,-,-⟩:=M2 h;have hV:=fun S tk k=>Ey S tk k l h1 h2;rw [h] at hC;have d0:((0:Int) != 0)=false:=rfl;simp only [Ap,Ar] at hC hV;have hv:H0 l=B4 l:=if_pos h;rw [hv];refine opP func22 ntmps22 ?_;simp (maxSteps:=10^6)+contextual(disch:=try exact dqd)only[ev1,simprocAttr,Cd,Cb,Ce,results22,Ap,Ar,hC,hV,d0]
 ·have hv:H0 l=[]:=if_neg h;rw [hv];have d0:(sysE l != 0)=true:=aJ
  simp only [Ap] at hC;refine opP func22 ntmps22 ?_;simp (maxSteps:=10^6)+contextual(disch:=try exact dqd)only[ev1,simprocAttr,Cd,Cb,Ce,results22,Ap,Ar,hC,d0]
end
end
section
open Go Tryz
set_option maxRecDepth 100000
def knF (c:ByteArray × Int):Pt->Int × Int × Bool->Int × Int × Bool
 | [],s=>s
 | x :: r,s=>knF c r (if sEq x.1 c.1=true then (s.1+c.2*x.2,s.2.1+c.2*x.2,true) else s)
def Ua (pt:Pt) (rad:Int) (s:Int × Int) (c:ByteArray × Int):Int × Int :=
 if (knF c pt (s.1,s.2,false)).2.2=true then ((knF c pt (s.1,s.2,false)).1,(knF c pt (s.1,s.2,false)).2.1)
 else ((knF c pt (s.1,s.2,false)).1 - (c.2.natAbs:Int)*rad,(knF c pt (s.1,s.2,false)).2.1+(c.2.natAbs:Int)*rad)
def lohi (pt:Pt) (rad:Int):Int × Int->List (ByteArray × Int)->Int × Int
 | s,[]=>s
 | s,c :: r=>lohi pt rad (Ua pt rad s c) r
def hopF (cs:List (ByteArray × Int)) (n:Int) (eq:Bool) (pt:Pt) (rad:Int):Bool :=
 decide (0<(lohi pt rad (n,n) cs).1) || (eq && decide ((lohi pt rad (n,n) cs).2<0))
theorem Tj {a b:Int} {A B:Nat} (ha:a.natAbs<=A) (hb:b.natAbs<=B):(a*b).natAbs<=A*B:=by
 rw [Ie]; exact Ov ha hb
theorem Tc {c:ByteArray × Int} (hc:c.2.natAbs<=1000000000000):∀ (pt:Pt) (s:Int × Int × Bool) (B:Nat),(∀ x ∈ pt,x.2.natAbs<=8)->s.1.natAbs<=B->s.2.1.natAbs<=B->(knF c pt s).1.natAbs<=B+8000000000000*pt.length/\(knF c pt s).2.1.natAbs<=B+8000000000000*pt.length
 | [],s,B,_,h1,h2=>by simpa [knF] using ⟨h1,h2⟩
 | x :: r,s,B,hx,h1,h2=>by
  rw [knF];have hm:=Tj hc (hx x (by simp));have hlen:(x :: r).length=r.length+1:=rfl;rw [hlen];split
  ·have:=Tc hc r (s.1+c.2*x.2,s.2.1+c.2*x.2,true) (B+8000000000000) (fun y hy=>hx y dE) aT aT;omega
  ·have:=Tc hc r s B (fun y hy=>hx y dE) h1 h2;omega
section
variable (S:List Ent) (tk:List Nat) (k:Nat)
theorem Ajp {c:ByteArray × Int} {x:ByteArray × Int} : ∀ {pt:Pt} {j:Nat} {s:Int × Int × Bool},nth pt j=some x->knF c (pt.take (j+1)) s=if sEq x.1 c.1=true then ((knF c (pt.take j) s).1+c.2*x.2,(knF c (pt.take j) s).2.1+c.2*x.2,true) else knF c (pt.take j) s
 | y :: r,0,s,h=>by simp only [nth,A2] at h; subst h; simp [knF]
 | y :: r,j+1,s,h=>by
  simp only [nth] at h;rw [F1,knF,Ajp h,F1,knF]
 | [],_,_,h=>bQ
theorem Ti (cs:List (ByteArray × Int)) (n:Int) (eq:Bool) (pt:Pt) (rad:Int) (hcl:cs.length<=24) (hc:∀ c ∈ cs,c.2.natAbs<=1000000000000) (hn:n.natAbs<=1000000000000) (hpl:pt.length<=8) (hp:∀ x ∈ pt,x.2.natAbs<=8) (hr:0<=rad/\rad<=8) :
  cL prog 40 [rowA cs n eq,Ag pt,.int rad] S tk k=some (.bool (hopF cs n eq pt rad),S,tk,k):=by
 refine opP func40 ntmps40 ?_;simp (maxSteps:=10^6)+contextual(disch:=try exact dqd)only[ev1,simprocAttr,Cd,Cb,Ce,results40,rowA,Ag];refine loop1 (P:=prog) (fun x st=>st.T.length=82/\(x.1<=cs.length)/\(x.2.1.natAbs<=1000000000000+100000000000000*x.1/\x.2.2.natAbs<=1000000000000+100000000000000*x.1)/\(lohi pt rad (n,n) cs=lohi pt rad x.2 (cs.drop x.1))/\getT st.T 1=Ag pt/\getT st.T 2=.int rad/\getT st.T 3=.ref 0 0 0/\getT st.T 7=.int x.2.1/\getT st.T 8=.int x.2.2/\getT st.T 23=Ag cs/\getT st.T 24=.int cs.length/\getT st.T 25=.int (x.1:Nat)/\st.S=[⟨0,[Ag cs,.int n,.bool eq]⟩]) (fun x=>cs.length - x.1) (fun x=>.bool (hopF cs n eq pt rad)) (0,((n,n):Int × Int)) ?_ ?_;case refine_2=>exact ⟨rfl,Co _,aT,rfl,rfl,rfl,rfl,rfl,rfl,rfl,rfl,rfl,rfl⟩
 rintro ⟨i,s⟩ ⟨T,S',tk',n'⟩ ⟨hl,hi,hB,hE,e1,e2,e3,e7,e8,e23,e24,e25,eS⟩ IH;simp only at hi hB hE e1 e2 e3 e7 e8 e23 e24 e25 eS;subst eS;obtain ⟨g,hg,hT⟩:=Au hl;rw [hg] at e1 e2 e3 e7 e8 e23 e24 e25;subst hT;clear hg hl;have OUT:=IH;clear IH;have dt:=Bb (i:=i) aA;obtain ⟨lo,qf⟩:=s;simp only at hB e7 e8;by_cases hlt:i<cs.length
 ·have d1:decide ((i:Int)<(cs.length:Int))=true:=aI
  obtain ⟨c,hx⟩:=Af hlt;have hx':=Qq hx;have hcc:=hc c (K7 hx);simp only [Bi] at hx';rw [Ay hx,lohi] at hE;simp (maxSteps:=10^6)+contextual(disch:=try exact dqd)only[ev1,simprocAttr,Cd,Cb,Ce,results40,e1,e2,e3,e7,e8,e23,e24,e25,d1,Ag,hx'];refine loop1 (P:=prog) (fun x st=>st.T.length=82/\(x.1<=pt.length)/\(x.2=knF c (pt.take x.1) (lo,qf,false))/\getT st.T 1=Ag pt/\getT st.T 2=.int rad/\getT st.T 3=.ref 0 0 0/\getT st.T 7=.int x.2.1/\getT st.T 8=.int x.2.2.1/\getT st.T 10=.ref 1 n' 0/\getT st.T 11=.bool x.2.2.2/\getT st.T 23=Ag cs/\getT st.T 24=.int cs.length/\getT st.T 25=.int (i:Nat)/\getT st.T 29=Ag pt/\getT st.T 30=.int pt.length/\getT st.T 31=.int (x.1:Nat)/\st.S=[⟨0,[Ag cs,.int n,.bool eq]⟩,⟨n',[.prim (.string c.1),.prim (.int .i64 c.2)]⟩]) (fun x=>pt.length - x.1) (fun x=>.bool (hopF cs n eq pt rad)) (0,((lo,qf,false):Int × Int × Bool)) ?_ ?_;case refine_2=>exact ⟨rfl,Co _,rfl,rfl,rfl,rfl,rfl,rfl,rfl,rfl,rfl,rfl,rfl,rfl,rfl,rfl,rfl⟩
  rintro ⟨j,q⟩ ⟨T,S',tk',n'⟩ ⟨hl,hj,hq,e1,e2,e3,e7,e8,e10,e11,e23,e24,e25,e29,e30,e31,eS⟩ IH;simp only at hj hq e1 e2 e3 e7 e8 e10 e11 e23 e24 e25 e29 e30 e31 eS;subst eS;obtain ⟨g,hg,hT⟩:=Au hl;rw [hg] at e1 e2 e3 e7 e8 e10 e11 e23 e24 e25 e29 e30 e31;subst hT;clear hg hl;have n9:=Bb (i:=j) aA;have ny:=Tc hcc (pt.take j) (lo,qf,false) (1000000000000+100000000000000*i) (fun x hx=>hp x (iE hx)) hB.1 hB.2;rw [<- hq] at ny;have htl:(pt.take j).length<=8:=cM
  obtain ⟨lo2,xq,kn⟩:=q;simp only at ny e7 e8 e11;by_cases ly:j<pt.length
  ·have dj:decide ((j:Int)<(pt.length:Int))=true:=fI
   obtain ⟨x,hxx⟩:=Af ly;have a0i:=Qq hxx;have hxm:=hp x (K7 hxx);have dc:=Tj hcc hxm;simp only [Bi] at a0i;have ta:=Ajp (c:=c) (s:=(lo,qf,false)) hxx;rw [<- hq] at ta;have w1':Cf.wrap (c.2*x.2)=c.2*x.2:=Ab aC;have w2':Cf.wrap (lo2+c.2*x.2)=lo2+c.2*x.2:=Ab aC;have w3':Cf.wrap (xq+c.2*x.2)=xq+c.2*x.2:=Ab aC;cases h0:sEq x.1 c.1 with
   | true =>
    rw [if_pos h0] at ta;simp (maxSteps:=10^6)+contextual(disch:=try exact dqd)only[ev1,simprocAttr,Cd,Cb,Ce,results40,e1,e2,e3,e7,e8,e10,e11,e23,e24,e25,e29,e30,e31,dj,Ag,a0i,n9,h0,w1',w2',w3'];exact IH (j+1,(lo2+c.2*x.2,xq+c.2*x.2,true)) _ aF ⟨rfl,aE,ta.symm,rfl,rfl,rfl,rfl,rfl,rfl,rfl,rfl,rfl,rfl,rfl,rfl,rfl,rfl⟩
   | false =>
    rw [if_neg (by rw [h0]; simp)] at ta;simp (maxSteps:=10^6)+contextual(disch:=try exact dqd)only[ev1,simprocAttr,Cd,Cb,Ce,results40,e1,e2,e3,e7,e8,e10,e11,e23,e24,e25,e29,e30,e31,dj,Ag,a0i,n9,h0,w1',w2',w3'];exact IH (j+1,(lo2,xq,kn)) _ aF ⟨rfl,aE,ta.symm,rfl,rfl,rfl,rfl,rfl,rfl,rfl,rfl,rfl,rfl,rfl,rfl,rfl,rfl⟩
  ·have dj:decide ((j:Int)<(pt.length:Int))=false:=fI
   have sv:j=pt.length:=aA
   rw [sv,Gl] at hq;have hstep:Ua pt rad (lo,qf) c=if kn=true then (lo2,xq) else (lo2 - (c.2.natAbs:Int)*rad,xq+(c.2.natAbs:Int)*rad):=by
    unfold Ua; simp only [<- hq]
   rw [hstep] at hE;cases kn with
   | true =>
    rw [if_pos rfl] at hE;simp (maxSteps:=10^6)+contextual(disch:=try exact dqd)only[ev1,simprocAttr,Cd,Cb,Ce,results40,e1,e2,e3,e7,e8,e10,e11,e23,e24,e25,e29,e30,e31,dj,Ag,dt];exact OUT (i+1,(lo2,xq)) _ aF ⟨rfl,aE,aT,hE,rfl,rfl,rfl,rfl,rfl,rfl,rfl,rfl,rfl⟩
   | false =>
    rw [if_neg (by simp)] at hE;have hneg:Cf.wrap (0 - c.2)=-c.2:=aS
    have hmx:(if -c.2 > c.2 then -c.2 else c.2)=(c.2.natAbs:Int):=eZ
    have pf:=Tj (a:=(c.2.natAbs:Int)) (b:=rad) (A:=1000000000000) (B:=8) aA aA;have w1':Cf.wrap ((c.2.natAbs:Int)*rad)=(c.2.natAbs:Int)*rad:=Ab aC;have w2':Cf.wrap (lo2 - (c.2.natAbs:Int)*rad)=lo2 - (c.2.natAbs:Int)*rad:=Ab aC;have w3':Cf.wrap (xq+(c.2.natAbs:Int)*rad)=xq+(c.2.natAbs:Int)*rad:=Ab aC;simp (maxSteps:=10^6)+contextual(disch:=try exact dqd)only[ev1,simprocAttr,Cd,Cb,Ce,results40,e1,e2,e3,e7,e8,e10,e11,e23,e24,e25,e29,e30,e31,dj,Ag,dt,hneg,Aou,hmx,w1',w2',w3'];exact OUT (i+1,(lo2 - (c.2.natAbs:Int)*rad,xq+(c.2.natAbs:Int)*rad)) _ aF ⟨rfl,aE,aT,hE,rfl,rfl,rfl,rfl,rfl,rfl,rfl,rfl,rfl⟩
 ·have d1:decide ((i:Int)<(cs.length:Int))=false:=aI
  have fh:i=cs.length:=aA
  rw [fh,Fo,lohi] at hE;have hh:hopF cs n eq pt rad=(decide (lo > 0) || (eq && decide (qf<0))):=by unfold hopF; rw [hE]
  rw [hh];cases h1:decide (lo > 0) with
  | true=>simp (maxSteps:=10^6)+contextual(disch:=try exact dqd)only[ev1,simprocAttr,Cd,Cb,Ce,results40,e1,e2,e3,e7,e8,e23,e24,e25,d1,Ag,h1,Sr]
  | false =>
   cases eq with
   | false=>simp (maxSteps:=10^6)+contextual(disch:=try exact dqd)only[ev1,simprocAttr,Cd,Cb,Ce,results40,e1,e2,e3,e7,e8,e23,e24,e25,d1,Ag,h1,I1,Fk]
   | true=>simp (maxSteps:=10^6)+contextual(disch:=try exact dqd)only[ev1,simprocAttr,Cd,Cb,Ce,results40,e1,e2,e3,e7,e8,e23,e24,e25,d1,Ag,h1,I1,Fs]
end
end
section
open Go Tryz Go.RowKit
variable {A:Nat->Nat->Prop}
def Cq (A:Nat->Nat->Prop) (W:World):Cx:={ w:=W,av:=A,φ:=fun _=>0,ψ:=fun _=>(0,0,0),S:=[],tk:=[],n:=0 }
def Hq (A:Nat->Nat->Prop) (w:World):Prop:=∀ b o,A b o->b<w.heap.size
theorem Hq.le {w w':World} (h:Hq A w) (hs:w.heap.size<=w'.heap.size):Hq A w':=fun b o hb=>Ff (h b o hb) hs
theorem Acv {W:World} {b o:Nat} : ¬ (Cq A W).Mut b o:=by
 rintro (⟨i,hi,_⟩|⟨i,hi,_⟩)
 ·simp [Cq] at hi
 ·simp [Cq] at hi
theorem M5 {W:World} {b o:Nat} (h:¬ A b o):¬ (Cq A W).Avoid b o:=by
 rintro (h'|h')
 ·exact h h'
 ·exact Acv h'
theorem Ao3 {W:World} {b o:Nat} (h:¬ (Cq A W).Avoid b o):¬ A b o:=fun h'=>h (.inl h')
theorem Arb {W:World} (hA:Hq A W):SR (Cq A W) :=
 ⟨fun i e h=>by simp [Cq,nth] at h,fun i j hi=>fB,fun i j o hi=>fB,fun i j o hi=>fB,fun b o h=>absurd h Acv,fun b o h=>hA b o h,fun i o hi=>fB,fun g a h=>by simp [Globs.gl] at h⟩
theorem Ah8 {f:FuncId} {args:List AV} {r:AV} {vs:Array Value} {w:World} (hA:Hq A w) (hcl:∀ S tk k,cL prog f args S tk k=some (r,S,tk,k)) (hv:VRs (Cq A w) args vs.toList) :
  Calls prog f vs w fun e w'=>∃ v,e=.returned v/\Below w.heap.size w w'/\VR (Cq A w') r v:=by
 refine (Wk mixed (hcl [] [] 0) (C:=Cq A w) rfl rfl rfl (Arb hA) hv).mono ?_;rintro e w' ⟨v,C',rfl,rfl,hle,-,h1,h2,h3,hr⟩;refine ⟨v,rfl,⟨hle.os,hle.tape,hle.output,hle.size,fun b hb=>hle.keep b hb fun o hm=>Acv hm⟩,?_⟩;exact VR.mono0 (C:=C') (C':=Cq A C'.w) ⟨by rw [h3]; exact Cc _,fun b o v' hv' ha=>⟨hv',M5 fun h=>ha (.inl Za4b)⟩,fun _ cs _ _ h=>⟨cs,h,rfl⟩,fun id e' he=>Za1g,fun id k hk=>Za3r⟩ _ _ hr
theorem VR.below0 {w w':World} {a:AV} {v:Value} (h:VR (Cq A w) a v) (hb:Below w.heap.size w w'):VR (Cq A w') a v:=VR.mono (Le.of_below (C:=Cq A w) hb) _ _ h
theorem Aiw {w:World} {A:Nat->Nat->Prop} {b sz:Nat} : ∀ {es:List (List AV)} {o j:Nat} {e:List AV},Bf w A b sz o es->nth es j=some e->e.length=sz/\∃ vs,Lie w A b (o+j*sz) vs/\PRs w A e vs
 | e0 :: es,o,0,e,h,hj=>by
  simp only [nth,A2] at hj; subst hj;simp only [Bf] at h;obtain ⟨h0,⟨vs,h1,h2⟩,-⟩:=h;exact ⟨h0,vs,aR,h2⟩
 | e0 :: es,o,j+1,e,h,hj=>by
  simp only [nth] at hj;simp only [Bf] at h;obtain ⟨h0,vs,h1,h2⟩:=Aiw h.2.2 hj;exact ⟨h0,vs,by rw [show o+(j+1)*sz=o+sz+j*sz by rw [Sg]; omega]; exact h1,h2⟩
 | [],_,_,_,_,hj=>by simp [nth] at hj
theorem Ajd {w:World} {es:List (List AV)} {c:Cap} {v:Value} (h:VR (Cq A w) (.frz es c) v):∃ a cap,v=.slice a es.length cap/\es.length<=cap /\
  ∀ j e,nth es j=some e->∃ b o vs,a=some ⟨b,o,none⟩/\Lie w (Cq A w).Avoid b (o+j*e.length) vs/\PRs w (Cq A w).Avoid e vs:=by
 simp only [VR] at h;obtain ⟨a,len,cap,rfl,h1,h2,-,h4⟩:=h;subst h1;refine ⟨a,cap,rfl,h2,fun j e hj=>?_⟩;rcases h4 with h4|⟨b,o,sz,rfl,h4⟩
 ·subst h4; simp [nth] at hj
 ·obtain ⟨h0,vs,h5,h6⟩:=Aiw h4 hj;exact ⟨b,o,vs,rfl,by rw [h0]; exact h5,h6⟩
theorem rowsQ {w:World} {l:List RowT} {v:Value} (h:VR (Cq A w) (Ap l) v):∃ a cap,v=.slice a l.length cap/\l.length<=cap /\
  ∀ j r,nth l j=some r->∃ b o a2 n2 c2,a=some ⟨b,o,none⟩/\b<w.heap.size/\w.cell? ⟨b,o+j*3,none⟩=some (.slice a2 n2 c2)/\w.cell? ⟨b,o+j*3+1,none⟩=some (.int .i64 r.2.1)/\w.cell? ⟨b,o+j*3+2,none⟩=some (.bool r.2.2) /\
   VR (Cq A w) (.agg (rowC r)) (.agg #[.slice a2 n2 c2,.int .i64 r.2.1,.bool r.2.2]):=by
 obtain ⟨a,cap,rfl,h1,h2⟩:=Ajd h;rw [Fq] at h1 ⊢;refine ⟨a,cap,rfl,h1,fun j r hj=>?_⟩;obtain ⟨b,o,vs,rfl,h3,h4⟩:=h2 j _ (G1 hj);have h5:=Jk (C:=Cq A w) h4;match vs,h3,h4,h5 with
 | [x,y,z],h3,h4,h5 =>
 simp only [rowC,Ag,PRs,PR,and_true] at h4;obtain ⟨⟨a2,n2,c2,rfl,-⟩,⟨rfl,-⟩,⟨rfl,-⟩⟩:=h4;simp only [Lie] at h3;refine ⟨b,o,a2,n2,c2,rfl,Ea h3.1,h3.1,h3.2.2.1,h3.2.2.2.2.1,?_⟩;simp only [VR];exact ⟨_,rfl,h5⟩
theorem Aee {w:World} {l:List ByteArray} {v:Value} (h:VR (Cq A w) (Ar l) v):∃ a cap,v=.slice a l.length cap/\l.length<=cap /\
  ∀ j s,nth l j=some s->∃ b o,a=some ⟨b,o,none⟩/\b<w.heap.size/\w.cell? ⟨b,o+j,none⟩=some (.string s):=by
 obtain ⟨a,cap,rfl,h1,h2⟩:=Ajd h;rw [Fq] at h1 ⊢;refine ⟨a,cap,rfl,h1,fun j r hj=>?_⟩;obtain ⟨b,o,vs,rfl,h3,h4⟩:=h2 j _ (Xi hj);match vs,h3,h4 with
 | [x],h3,h4 =>
 simp only [PRs,PR,and_true] at h4;obtain ⟨rfl,-⟩:=h4;simp only [Lie,Ck,Cu,Fg,Ib] at h3;exact ⟨b,o,rfl,Ea h3.1,h3.1⟩
theorem Ap9 {w:World} {l:List Int} {c:Cap} {v:Value} (h:VR (Cq A w) (.frz (l.map intC) c) v):∃ a cap,v=.slice a l.length cap/\l.length<=cap /\
  ∀ j s,nth l j=some s->∃ b o,a=some ⟨b,o,none⟩/\b<w.heap.size/\w.cell? ⟨b,o+j,none⟩=some (.int .i64 s):=by
 obtain ⟨a,cap,rfl,h1,h2⟩:=Ajd h;rw [Fq] at h1 ⊢;refine ⟨a,cap,rfl,h1,fun j r hj=>?_⟩;obtain ⟨b,o,vs,rfl,h3,h4⟩:=h2 j (intC r) (by rw [D3,hj]; rfl);match vs,h3,h4 with
 | [x],h3,h4 =>
 simp only [intC,PRs,PR,and_true] at h4;obtain ⟨rfl,-⟩:=h4;simp only [intC,Lie,Ck,Cu,Fg,Ib] at h3;exact ⟨b,o,rfl,Ea h3.1,h3.1⟩
def L8:Pt->List Value
 | []=>[]
 | c :: r=>.string c.1 :: .int .i64 c.2 :: L8 r
theorem Tq {w:World} {b:Nat} : ∀ {pt:Pt} {o:Nat},Bf w (Cq A w).Avoid b 2 o (pt.map Bi)->∀ j u,(L8 pt)[j]?=some u->w.cell? ⟨b,o+j,none⟩=some u/\¬ A b (o+j)
 | [],o,_,j,u,hj=>by simp [L8] at hj
 | c :: r,o,h,j,u,hj=>by
  simp only [Cp,Bf,Bi] at h;obtain ⟨-,⟨vs,h1,h2⟩,h3⟩:=h;match vs,h1,h2 with
  | [x,y],h1,h2 =>
  simp only [PRs,PR,and_true] at h2;obtain ⟨⟨rfl,-⟩,⟨rfl,-⟩⟩:=h2;simp only [Lie] at h1;match j,hj with
  | 0,hj=>simp only [L8,F2,A2] at hj; subst hj; exact ⟨h1.1,Ao3 h1.2.1⟩
  | 1,hj=>simp only [L8,List.getElem?_cons_succ,F2,A2] at hj; subst hj; exact ⟨h1.2.2.1,Ao3 h1.2.2.2.1⟩
  | j+2,hj =>
   simp only [L8,List.getElem?_cons_succ] at hj;have:=Tq h3 j u hj;rw [show o+(j+2)=o+2+j by omega]; exact this
theorem Aej {w:World} {pt:Pt} {v:Value} (h:VR (Cq A w) (Ag pt) v):∃ a cap,v=.slice a pt.length cap/\pt.length<=cap/\(pt=[]\/∃ b o,a=some ⟨b,o,none⟩/\∀ j u,(L8 pt)[j]?=some u->w.cell? ⟨b,o+j,none⟩=some u/\¬ A b (o+j)):=by
 simp only [Ag,VR] at h;obtain ⟨a,len,cap,rfl,h1,h2,-,h4⟩:=h;rw [Fq] at h1;subst h1;refine ⟨a,cap,rfl,h2,?_⟩;rcases h4 with h4|⟨b,o,sz,rfl,h4⟩
 ·exact .inl eV
 ·cases pt with
  | nil=>exact .inl rfl
  | cons c r =>
   have hsz:sz=2:=by simp only [Cp,Bf,Bi,Ck,Cu] at h4; exact h4.1.symm
   subst hsz;exact .inr ⟨b,o,rfl,Tq h4⟩
theorem Mv {w:World} {b:Nat} : ∀ (pt:Pt) (o:Nat),(∀ j u,(L8 pt)[j]?=some u->w.cell? ⟨b,o+j,none⟩=some u/\¬ A b (o+j))->Bf w (Cq A w).Avoid b 2 o (pt.map Bi)
 | [],o,_=>Za37
 | c :: r,o,h=>by
  simp only [Cp,Bf];have h0:=h 0 _ rfl;have h1:=h 1 _ rfl;refine ⟨rfl,⟨[.string c.1,.int .i64 c.2],⟨h0.1,M5 h0.2,h1.1,M5 h1.2,trivial⟩,?_⟩,Mv r (o+2) fun j u hj=>?_⟩
  ·simp [PRs,PR,Bi,S8]
  ·have:=h (j+2) u (by simpa only [L8,List.getElem?_cons_succ] using hj);rwa [show o+(j+2)=o+2+j by omega] at this
theorem Anm {w:World} {pt:Pt} {b o cap:Nat} (hc:pt.length<=cap) (h:∀ j u,(L8 pt)[j]?=some u->w.cell? ⟨b,o+j,none⟩=some u/\¬ A b (o+j)):VR (Cq A w) (Ag pt) (.slice (some ⟨b,o,none⟩) pt.length cap):=by
 simp only [Ag,VR];exact ⟨_,_,_,rfl,by simp,hc,trivial,.inr ⟨b,o,2,rfl,Mv pt o h⟩⟩
end
section
open Go Tryz
set_option maxRecDepth 100000
def Mf (l:List RowT):Bool:=decide (l.length<=8) && l.all fun r=>decide (r.1.length<=8)
def Aap (l:List RowT) (most:Int):Bool:=Mf l && (decide (most<=1) || (decide (most<=4) && decide ((H0 l).length<=3)) || decide (6<(H0 l).length) || decide (8<most))
theorem Amf {α:Type} {f:α->Bool} {l:List α} {i:Nat} {x:α} (h:nth l i=some x):(l.drop i).all f=(f x && (l.drop (i+1)).all f):=by
 rw [Ay h]; rfl
def nX:ByteArray:=⟨#[120]⟩
def nY:ByteArray:=⟨#[121]⟩
section
variable (S:List Ent) (tk:List Nat) (k:Nat)
theorem Ag7 (l:List RowT):cL prog 15 [Ap l] S tk k=some (.bool (Mf l),S,tk,k):=by
 refine opP func15 ntmps15 ?_;by_cases h8:8<l.length
 ·have d0:decide ((l.length:Int) > 8)=true:=aB
  have hr:Mf l=false:=by
   have:decide (l.length<=8)=false:=aB
   unfold Mf; rw [this,Fk]
  rw [hr];simp (maxSteps:=10^6)+contextual(disch:=try exact dqd)only[ev1,simprocAttr,Cd,Cb,Ce,results15,Ap,d0]
 have d0:decide ((l.length:Int) > 8)=false:=aB
 have hr:Mf l=l.all fun r=>decide (r.1.length<=8):=by
  have:decide (l.length<=8)=true:=aB
  unfold Mf; rw [this,Fs]
 rw [hr];simp (maxSteps:=10^6)+contextual(disch:=try exact dqd)only[ev1,simprocAttr,Cd,Cb,Ce,results15,Ap,d0];refine loop1 (P:=prog) (fun x st=>st.T.length=21/\(x<=l.length)/\((l.all fun r=>decide (r.1.length<=8))=(l.drop x).all fun r=>decide (r.1.length<=8))/\getT st.T 0=Ap l/\getT st.T 3=.int (x:Nat)/\st.S=[]) (fun x=>l.length - x) (fun x=>.bool (l.all fun r=>decide (r.1.length<=8))) (0) ?_ ?_;case refine_2=>exact ⟨rfl,Co _,rfl,rfl,rfl,rfl⟩
 rintro i ⟨T,S',tk',n'⟩ ⟨hl,hi,hE,e0,e3,eS⟩ IH;subst eS;obtain ⟨g,hg,hT⟩:=Au hl;rw [hg] at e0 e3;subst hT;clear hg hl;have dt:=Bb (i:=i) aA;by_cases hlt:i<l.length
 ·have d1:decide ((i:Int)<(l.length:Int))=true:=aI
  obtain ⟨r,hx⟩:=Af hlt;have hx':=G1 hx;simp only [rowC,Ag] at hx';rw [Amf hx] at hE;by_cases h9:8<r.1.length
  ·have d2:decide ((r.1.length:Int) > 8)=true:=aB
   have d3:decide (r.1.length<=8)=false:=aB
   rw [d3,Fk] at hE;simp (maxSteps:=10^6)+contextual(disch:=try exact dqd)only[ev1,simprocAttr,Cd,Cb,Ce,results15,e0,e3,d1,Ap,hx',d2];rw [hE]
  ·have d2:decide ((r.1.length:Int) > 8)=false:=aB
   have d3:decide (r.1.length<=8)=true:=aB
   rw [d3,Fs] at hE;simp (maxSteps:=10^6)+contextual(disch:=try exact dqd)only[ev1,simprocAttr,Cd,Cb,Ce,results15,e0,e3,d1,Ap,hx',d2,dt];exact IH (i+1) _ aF ⟨rfl,aE,hE,rfl,rfl,rfl⟩
 ·have d1:decide ((i:Int)<(l.length:Int))=false:=aI
  have fh:i=l.length:=aA
  rw [fh,Fo] at hE;simp (maxSteps:=10^6)+contextual(disch:=try exact dqd)only[ev1,simprocAttr,Cd,Cb,Ce,results15,e0,e3,d1,Ap];rw [hE]; rfl
theorem Ag8 (l:List RowT) (most:Int):cL prog 5 [Ap l,.int most] S tk k=some (.bool (Aap l most),S,tk,k):=by
 have hV:=fun S tk k=>Ahj S tk k l;have hL:=fun S tk k=>Ag7 S tk k l;simp only [Ap,Ar] at hV hL;unfold Aap;refine opP func5 ntmps5 ?_;have q1:decide ((((H0 l).map strC).length:Int)<=3)=decide ((H0 l).length<=3):=Za26
 have q2:decide ((((H0 l).map strC).length:Int) > 6)=decide (6<(H0 l).length):=Za26
 cases a0:Mf l with
 | false=>rw [a0] at hL; simp (maxSteps:=10^6)+contextual(disch:=try exact dqd)only[ev1,simprocAttr,Cd,Cb,Ce,results5,Ap,hV,hL,Fk]
 | true =>
  rw [a0] at hL;cases a1:decide (most<=1) with
  | true=>simp (maxSteps:=10^6)+contextual(disch:=try exact dqd)only[ev1,simprocAttr,Cd,Cb,Ce,results5,Ap,hV,hL,a1,Fs,Sr]
  | false =>
   cases a2:decide (most<=4) <;> cases a3:decide ((H0 l).length<=3) <;> cases a4:decide (6<(H0 l).length) <;> cases a5:decide (most > 8) <;>
    (have a3':=q1.trans a3; have a4':=q2.trans a4; have a5':decide (8<most)=_:=a5; simp only [Fq] at a3' a4'; simp (maxSteps:=10^6)+contextual(disch:=try exact dqd)only[ev1,simprocAttr,Cd,Cb,Ce,results5,Ap,hV,hL,a1,a2,a3,a4,a5,a3',a4',a5',Fs,Sr,I1,iN,Fv,Fk,Bool.and_true,Bool.and_false,Fq])
theorem V2 (x c:Int) (eq:Bool) (hx:(x != 0)=true):cL prog 16 [.int x,.int 0,.int c,.bool eq] S tk k=some (.agg (rowC ([(nX,x)],c,eq)),S,tk,k):=by
 refine opP func16 ntmps16 ?_;have hA:=fun (a b:AV)=>apB_one (tk:=[]) (c:=.nilc) (es:=[]) (y:=[a,b]) (sz:=2) rfl rfl rfl aH;simp (maxSteps:=10^6)+contextual(disch:=try exact dqd)only[ev1,simprocAttr,Cd,Cb,Ce,results16,hx,bne_self_eq_false,hA];rfl
theorem Acx (x y c:Int) (eq:Bool) (hx:(x != 0)=true) (hy:(y != 0)=true):cL prog 16 [.int x,.int y,.int c,.bool eq] S tk k=some (.agg (rowC ([(nX,x),(nY,y)],c,eq)),S,tk,k):=by
 refine opP func16 ntmps16 ?_;have hA:=fun (a b:AV)=>apB_one (tk:=[]) (c:=.nilc) (es:=[]) (y:=[a,b]) (sz:=2) rfl rfl rfl aH;have hA2:=fun (a b c d:AV)=>apB_one (tk:=G6 [] .nilc) (c:=Bg [] .nilc 2) (es:=[[a,b]]) (y:=[c,d]) (sz:=2) rfl rfl rfl (by simp);simp (maxSteps:=10^6)+contextual(disch:=try exact dqd)only[ev1,simprocAttr,Cd,Cb,Ce,results16,hx,hy,hA,hA2,Cw,O9];rfl
theorem Yf (x y:Int):cL prog 19 [.int x,.int y] S tk k=some (Ag [(nX,x),(nY,y)],S,tk,k):=by
 refine opP func19 ntmps19 ?_;simp (maxSteps:=10^6)+contextual(disch:=try exact dqd)only[ev1,simprocAttr,Cd,Cb,Ce,results19];rfl
end
end
section
open Go
theorem Adf (a:Int):befF a a=false:=by simp [befF]
theorem Afn {a b c:Int} (h1:befF a b=true) (h2:befF b c=true):befF a c=true:=by
 unfold befF at *;split at h1 <;> split at h2 <;> split <;> simp only [decide_eq_true_eq] at*<;> omega
theorem Amk {a b:Int} (h:a≠b) (h1:befF a b=false):befF b a=true:=by
 unfold befF at *;split at h1 <;> split <;> simp only [decide_eq_true_eq,decide_eq_false_iff_not] at*<;> omega
theorem G9 {s:ByteArray} : ∀ {pt:Pt},findS s pt≠0->∃ c ∈ pt,c.1=s
 | [],h=>absurd rfl h
 | c :: r,h=>by
  unfold findS at h;split at h
  ·rename_i he;rw [Kj] at he;exact ⟨c,by simp,bU⟩
  ·obtain ⟨d,hd,e⟩:=G9 h;exact ⟨d,by simp [hd],e⟩
theorem Akp (pt:Pt) (n:Nat):∀ (l:Pt) (m:Nat),radG pt m l<=n↔m<=n/\∀ c ∈ l,(findS c.1 pt).natAbs<=n
 | [],m=>by simp [radG]
 | c :: r,m=>by
  rw [radG,Akp pt n r];constructor
  ·rintro ⟨h1,h2⟩;refine ⟨aA,fun d hd=>?_⟩;rcases Cn.1 hd with rfl|hd
   ·omega
   ·exact h2 d hd
  ·rintro ⟨h1,h2⟩;have:=h2 c (by simp);exact ⟨aA,fun d hd=>h2 d (by simp [hd])⟩
theorem Tw (pt:Pt) (n:Nat):radF pt<=n↔∀ s,(findS s pt).natAbs<=n:=by
 unfold radF;rw [Akp];constructor
 ·rintro ⟨-,h⟩ s;by_cases h0:findS s pt=0
  ·rw [h0]; simp
  ·obtain ⟨c,hc,rfl⟩:=G9 h0;exact h c hc
 ·exact fun h=>⟨Co _,fun c _=>h c.1⟩
def Amb (a b:Pt):Prop:=∀ s,findS s a=findS s b
theorem Ako {a b:Pt} (h:Amb a b):radF a=radF b:=by
 have h1:radF a<=radF b:=(Tw a _).2 fun s=>by rw [h s]; exact (Tw b _).1 (Cc _) s
 have h2:radF b<=radF a:=(Tw b _).2 fun s=>by rw [<- h s]; exact (Tw a _).1 (Cc _) s
 omega
theorem least_none (a b:Pt):∀ (l:Pt) (o:Option ByteArray),Gs a b o l=none↔o=none/\∀ c ∈ l,findS c.1 a=findS c.1 b
 | [],o=>by simp [Gs]
 | c :: r,o=>by
  rw [Gs,least_none a b r];by_cases hd:findS c.1 a=findS c.1 b
  ·have:(findS c.1 a != findS c.1 b)=false:=cF
   simp [this,hd]
  ·have h1:(findS c.1 a != findS c.1 b)=true:=cF
   rw [h1,Fs];constructor
   ·rintro ⟨h2,-⟩;split at h2
    ·cases h2
    ·rename_i h3;subst h2;exact absurd rfl h3
   ·rintro ⟨-,h2⟩;exact absurd (h2 c (by simp)) hd
theorem Lz (a b:Pt):∀ (l:Pt) (o:Option ByteArray) (s:ByteArray),(∀ t,o=some t->findS t a≠findS t b)->Gs a b o l=some s ->
  findS s a≠findS s b/\(∀ t,o=some t->¬ nm t<nm s)/\∀ c ∈ l,findS c.1 a≠findS c.1 b->¬ nm c.1<nm s
 | [],o,s,ho,h=>by
  simp only [Gs] at h;refine ⟨ho s h,fun t ht=>?_,by simp⟩;rw [h] at ht;simp only [A2] at ht;subst ht;exact D6 _
 | c :: r,o,s,ho,h=>by
  rw [Gs] at h;by_cases hd:findS c.1 a=findS c.1 b
  ·have dd:(findS c.1 a != findS c.1 b)=false:=cF
   rw [dd,Fk,if_neg (by simp)] at h;obtain ⟨h1,h2,h3⟩:=Lz a b r o s ho h;refine ⟨h1,h2,fun d hd2 hne=>?_⟩;rcases Cn.1 hd2 with rfl|hd2
   ·exact absurd hd hne
   ·exact h3 d hd2 hne
  ·have dd:(findS c.1 a != findS c.1 b)=true:=cF
   rw [dd,Fs] at h;by_cases hl:Ajx o c.1=true
   ·rw [if_pos hl] at h;obtain ⟨h1,h2,h3⟩:=Lz a b r (some c.1) s (fun t ht=>by simp only [A2] at ht; subst ht; exact hd) h;have jg:=h2 c.1 rfl;refine ⟨h1,fun t ht hlt=>?_,fun d hd2 hne=>?_⟩
    ·subst ht;simp only [Ajx,Vw,decide_eq_true_eq] at hl;exact jg (Ha hl hlt)
    ·rcases Cn.1 hd2 with rfl|hd2
     ·exact jg
     ·exact h3 d hd2 hne
   ·rw [if_neg hl] at h;obtain ⟨h1,h2,h3⟩:=Lz a b r o s ho h;refine ⟨h1,h2,fun d hd2 hne=>?_⟩;rcases Cn.1 hd2 with rfl|hd2
    ·cases o with
     | none=>exact absurd rfl hl
     | some t =>
      simp only [Ajx,Vw,decide_eq_true_eq] at hl;intro hlt;rcases Xg d.1 t with q|q|q
      ·exact hl q
      ·rw [q] at hlt; exact h2 t rfl hlt
      ·exact h2 t rfl (Ha q hlt)
    ·exact h3 d hd2 hne
def LtP (a b:Pt):Prop:=radF a<radF b\/radF a=radF b/\∃ s,befF (findS s a) (findS s b)=true/\∀ t,nm t<nm s->findS t a=findS t b
theorem Tm (a b:Pt):(ordF a b=-1/\LtP a b)\/(ordF a b=0/\Amb a b)\/(ordF a b=1/\LtP b a):=by
 unfold ordF;by_cases c1:radF a<radF b
 ·rw [if_pos c1]; exact .inl ⟨rfl,.inl c1⟩
 rw [if_neg c1];by_cases c2:radF b<radF a
 ·rw [if_pos c2]; exact .inr (.inr ⟨rfl,.inl c2⟩)
 rw [if_neg c2];have hr:radF a=radF b:=aA
 cases h:Gs a b none (a++b) with
 | none =>
  have h1:=((least_none a b (a++b) none).1 h).2;refine .inr (.inl ⟨rfl,fun s=>?_⟩);by_cases h0:findS s a=0
  ·by_cases h0':findS s b=0
   ·rw [h0,h0']
   ·obtain ⟨c,hc,rfl⟩:=G9 h0';exact h1 c (by simp [hc])
  ·obtain ⟨c,hc,rfl⟩:=G9 h0;exact h1 c (by simp [hc])
 | some s =>
  obtain ⟨h1,-,h3⟩:=Lz a b (a++b) none s (by simp) h;have h4:∀ t,nm t<nm s->findS t a=findS t b:=fun t ht=>by
   refine Decidable.byContradiction fun hne=>?_;by_cases h0:findS t a=0
   ·by_cases h0':findS t b=0
    ·exact hne (by rw [h0,h0'])
    ·obtain ⟨c,hc,rfl⟩:=G9 h0';exact h3 c (by simp [hc]) hne ht
   ·obtain ⟨c,hc,rfl⟩:=G9 h0;exact h3 c (by simp [hc]) hne ht
  cases hb:befF (findS s a) (findS s b) with
  | true=>exact .inl ⟨by simp [hb],.inr ⟨hr,s,hb,h4⟩⟩
  | false=>exact .inr (.inr ⟨by simp [hb],.inr ⟨hr.symm,s,Amk h1 hb,fun t ht=>(h4 t ht).symm⟩⟩)
theorem Pc {a b:Pt} (h:LtP a b) (hs:Amb a b):False:=by
 rcases h with h|⟨-,s,hb,-⟩
 ·rw [Ako hs] at h; omega
 ·rw [hs s,Adf] at hb; cases hb
theorem Ahb {a b c:Pt} (h1:LtP a b) (h2:LtP b c):LtP a c:=by
 rcases h1 with h1|⟨r1,s,b1,e1⟩ <;> rcases h2 with h2|⟨r2,t,b2,e2⟩
 ·exact .inl aA
 ·exact .inl aA
 ·exact .inl aA
 refine .inr ⟨aA,?_⟩;rcases Xg s t with q|q|q
 ·exact ⟨s,by rw [<- e2 s q]; exact b1,fun u hu=>(e1 u hu).trans (e2 u (Ha hu q))⟩
 ·subst q;exact ⟨s,Afn b1 b2,fun u hu=>(e1 u hu).trans (e2 u hu)⟩
 ·exact ⟨t,by rw [e1 t q]; exact b2,fun u hu=>(e1 u (Ha hu q)).trans (e2 u hu)⟩
theorem Q4 {a b:Pt} (h:LtP a b) (h2:LtP b a):False:=Pc (Ahb h h2) fun _=>rfl
theorem Aqh (a b:Pt):ordF b a=-ordF a b:=by
 rcases Tm a b with ⟨e,h⟩|⟨e,h⟩|⟨e,h⟩ <;> rcases Tm b a with ⟨e2,h2⟩|⟨e2,h2⟩|⟨e2,h2⟩
 ·exact absurd h2 fun h2=>Q4 h h2
 ·exact absurd h fun h=>Pc h fun s=>(h2 s).symm
 ·omega
 ·exact absurd h2 fun h2=>Pc h2 fun s=>(h s).symm
 ·omega
 ·exact absurd h2 fun h2=>Pc h2 h
 ·omega
 ·exact absurd h fun h=>Pc h h2
 ·exact absurd h2 fun h2=>Q4 h h2
theorem Anj (a:Pt):ordF a a=0:=by have:=Aqh a a; omega
theorem Aoy {a b:Pt} (h:LtP a b\/Amb a b):ordF a b<=0:=by
 rcases Tm a b with ⟨e,_⟩|⟨e,_⟩|⟨e,h3⟩
 ·omega
 ·omega
 ·rcases h with h|h
  ·exact absurd h3 fun h3=>Q4 h h3
  ·exact absurd h3 fun h3=>Pc h3 fun s=>(h s).symm
def B3 (sat:Pt->Bool) (r:Int):List ByteArray->Pt->Bool->Option Pt
 | [],pt,reached=>if (reached && sat pt)=true then some pt else none
 | s :: ns,pt,reached=>(Hc r).findSome? fun n=>B3 sat r ns (pt++[(s,n)]) (reached || n == r || n == -r)
def Kn (sat:Pt->Bool) (names:List ByteArray):Nat->Nat->Option Pt
 | _,0=>none
 | j,k+1=>match B3 sat (j:Int) names [] ((j:Int) == 0) with
  | some p=>some p
  | none=>Kn sat names (j+1) k
def okF (l:List RowT) (most:Int):Bool:=decide (sysE l=0) && decide (0<=most) && decide (most<=8) && decide ((B4 l).length<=6)
def fndF (l:List RowT) (most:Int):Option Pt:=if okF l most=true then Kn (satF l) (B4 l) 0 (most.toNat+1) else none
theorem Xe:∀ (n:Nat) (x:Int),x ∈ Px n↔x.natAbs<=n
 | 0,x=>by simp [Px]
 | n+1,x=>by
  rw [Px,C4,Xe n];simp only [Cn,Ol,or_false];omega
theorem Nt {r x:Int} (h0:0<=r) (h8:r<=8):x ∈ Hc r↔(x.natAbs:Int)<=r:=by
 unfold Hc;rw [if_neg aA,Xe];omega
theorem Kb {sat:Pt->Bool} {r:Int} : ∀ {ns:List ByteArray} {pt:Pt} {reached:Bool} {p:Pt},B3 sat r ns pt reached=some p->sat p=true/\∃ ext:Pt,p=pt++ext/\ext.map (·.1)=ns/\(∀ x ∈ ext,x.2 ∈ Hc r)/\(reached=true\/∃ x ∈ ext,x.2=r\/x.2=-r)
 | [],pt,reached,p,h=>by
  simp only [B3] at h;split at h
  ·rename_i hs;simp only [A2] at h;subst h;rw [Ch] at hs;exact ⟨hs.2,[],by simp,rfl,by simp,.inl hs.1⟩
  ·cases h
 | s :: ns,pt,reached,p,h=>by
  simp only [B3] at h;obtain ⟨n,hn,h1⟩:=List.exists_of_findSome?_eq_some h;obtain ⟨h2,ext,rfl,h4,h5,h6⟩:=Kb h1;refine ⟨h2,(s,n) :: ext,by simp,by simp [h4],fun x hx=>?_,?_⟩
  ·rcases Cn.1 hx with rfl|hx
   ·exact hn
   ·exact h5 x hx
  ·rcases h6 with h6|⟨x,hx,h6⟩
   ·simp only [F8,beq_iff_eq] at h6;rcases h6 with (h6|h6)|h6
    ·exact .inl h6
    ·exact .inr ⟨(s,n),by simp,.inl h6⟩
    ·exact .inr ⟨(s,n),by simp,.inr h6⟩
   ·exact .inr ⟨x,bJ,h6⟩
def lv (pt:Pt):List (ByteArray × Int)->Int
 | []=>0
 | c :: r=>c.2*findS c.1 pt+lv pt r
theorem V0 {pt:Pt} : ∀ {cs:List (ByteArray × Int)} {s:Int},(Ee pt s cs).2=true->(Ee pt s cs).1=s+lv pt cs
 | [],s,_=>by simp [Ee,lv]
 | c :: r,s,h=>by
  have ck:∀ {b:Bool} {n:Int},(chk b n).2=true->(chk b n).1=n:=fun {b n} h=>by
   unfold chk at h ⊢;split at h
   ·rename_i hc; rw [if_pos hc]
   ·cases h
  unfold Ee at h ⊢;split at h
  ·rename_i h1;rw [if_pos h1];split at h
   ·rename_i h2;rw [if_pos h2];rw [V0 h,lv];have e1:(mulS c.2 (findS c.1 pt)).1=c.2*findS c.1 pt:=ck h1;have e2:(addS s (mulS c.2 (findS c.1 pt)).1).1=s+(mulS c.2 (findS c.1 pt)).1:=ck h2;rw [e2,e1]; omega
   ·cases h
  ·cases h
theorem Aev {pt:Pt} {r:RowT} (h:Aat pt r=true):r.2.1+lv pt r.1<=0/\(r.2.2=true->r.2.1+lv pt r.1=0):=by
 unfold Aat at h;rw [Ch,Ch,decide_eq_true_eq] at h;obtain ⟨h1,h2,h3⟩:=h;unfold Hz at h1 h2 h3;split at h1
 ·rename_i hc;rw [if_pos hc] at h2 h3;rw [V0 h1] at h2 h3;refine ⟨h2,fun he=>?_⟩;rw [he] at h3;simpa using h3
 ·cases h1
theorem Rv {s:ByteArray} {B:Nat} : ∀ {a:Pt},(∀ x ∈ a,x.2.natAbs<=B)->(findS s a).natAbs<=B
 | [],_=>by simp [findS]
 | c :: r,h=>by
  unfold findS;split
  ·exact h c (by simp)
  ·exact Rv fun x hx=>h x bJ
def Yd (pt:Pt):Prop:=pt.Pairwise fun a b=>a.1≠b.1
theorem Ad7 {c:ByteArray × Int} : ∀ {pt:Pt} {s:Int × Int × Bool},(∀ x ∈ pt,x.1≠c.1)->knF c pt s=s
 | [],_,_=>rfl
 | x :: r,s,h=>by
  rw [knF,if_neg (by rw [Kj]; simpa using h x (by simp))];exact Ad7 fun y hy=>h y dE
theorem Ad8 {c:ByteArray × Int} {lo hi:Int} {ext:Pt} : ∀ {pt:Pt},Yd pt ->
  (knF c pt (lo,hi,false)=(lo+c.2*findS c.1 (pt++ext),hi+c.2*findS c.1 (pt++ext),true))\/(knF c pt (lo,hi,false)=(lo,hi,false)/\findS c.1 (pt++ext)=findS c.1 ext)
 | [],_=>.inr ⟨rfl,rfl⟩
 | x :: r,h=>by
  obtain ⟨h1,h2⟩:=F0.1 h;rw [knF,Cr,findS];by_cases he:sEq x.1 c.1=true
  ·rw [if_pos he,if_pos he];rw [Kj] at he;have he:x.1=c.1:=bU
   left;rw [Ad7 fun y hy=>by rw [<- he]; exact (h1 y hy).symm]
  ·rw [if_neg he,if_neg he];exact Ad8 h2
theorem Afl {a b B:Int} (h:(b.natAbs:Int)<=B) : -((a.natAbs:Int)*B)<=a*b/\a*b<=(a.natAbs:Int)*B:=by
 have h1:((a*b).natAbs:Int)<=(a.natAbs:Int)*B:=by
  rw [Ie,Int.natCast_mul];exact Int.mul_le_mul_of_nonneg_left h aA
 omega
theorem Vo {pt ext:Pt} {rad:Int} (ha:Yd pt) (hx:∀ s,((findS s ext).natAbs:Int)<=rad):∀ (cs:List (ByteArray × Int)) (lo hi v:Int),lo<=v->v<=hi ->
  (lohi pt rad (lo,hi) cs).1<=v+lv (pt++ext) cs/\v+lv (pt++ext) cs<=(lohi pt rad (lo,hi) cs).2
 | [],lo,hi,v,h1,h2=>by simp only [lohi,lv]; omega
 | c :: r,lo,hi,v,h1,h2=>by
  rw [lohi,lv];have key:(Ua pt rad (lo,hi) c).1<=v+c.2*findS c.1 (pt++ext)/\v+c.2*findS c.1 (pt++ext)<=(Ua pt rad (lo,hi) c).2:=by
   unfold Ua;simp only;rcases Ad8 (c:=c) (lo:=lo) (hi:=hi) (ext:=ext) ha with h|⟨h,h3⟩
   ·rw [h,if_pos rfl]; simp only; omega
   ·rw [h,if_neg (by simp)];simp only;rw [h3];have:=Afl (a:=c.2) (hx c.1);omega
  have:=Vo ha hx r (Ua pt rad (lo,hi) c).1 (Ua pt rad (lo,hi) c).2 (v+c.2*findS c.1 (pt++ext)) key.1 key.2;have e:((Ua pt rad (lo,hi) c).1,(Ua pt rad (lo,hi) c).2)=Ua pt rad (lo,hi) c:=rfl;rw [e] at this;rw [<- gZ];exact this
theorem Am1 {l:List RowT} {r:RowT} (hr:r ∈ l) {pt:Pt} {rad:Int} (h0:0<=rad) (h8:rad<=8) (ha:Yd pt) (hh:hopF r.1 r.2.1 r.2.2 pt rad=true) (ns:List ByteArray) (reached:Bool):B3 (satF l) rad ns pt reached=none:=by
 cases h:B3 (satF l) rad ns pt reached with
 | none=>rfl
 | some p =>
  exfalso;obtain ⟨h1,ext,rfl,-,h3,-⟩:=Kb h;have h4:Aat (pt++ext) r=true:=by
   unfold satF at h1;exact Cv.1 h1 r hr
  obtain ⟨h5,h6⟩:=Aev h4;have hb:∀ s,((findS s ext).natAbs:Int)<=rad:=fun s=>by
   have:=Rv (s:=s) (B:=rad.toNat) (a:=ext) fun x hx=>by
    have:=(Nt h0 h8).1 (h3 x hx);omega
   omega
  obtain ⟨h7,h9⟩:=Vo ha hb r.1 r.2.1 r.2.1 r.2.1 (Int.le_refl _) (Int.le_refl _);unfold hopF at hh;rw [F8,Ch,decide_eq_true_eq,decide_eq_true_eq] at hh;rcases hh with hh|⟨he,hh⟩
  ·omega
  ·have:=h6 he; omega
theorem Ai7 {α β:Type} {f:α->Option β} {l:List α} {j:Nat} {x:α} (h:nth l j=some x) (hn:(l.take j).findSome? f=none):l.findSome? f=match f x with|some y=>some y|none=>(l.drop (j+1)).findSome? f:=by
 have e:l=l.take j++(x :: l.drop (j+1)):=by
  rw [<- Ay h,Mh]
 conv=>lhs; rw [e]
 rw [List.findSome?_append,hn,List.findSome?_cons];cases f x <;> rfl
theorem Ai8 {α β:Type} {f:α->Option β} {l:List α} {j:Nat} {x:α} (h:nth l j=some x) (hn:(l.take j).findSome? f=none) (hx:f x=none):(l.take (j+1)).findSome? f=none:=by
 rw [Ez h,List.findSome?_append,hn];simp [hx]
end
section
open Go Tryz Go.RowKit
variable {A:Nat->Nat->Prop}
theorem Ae0 {w:World} {t ty:TypeId} {es ys:List (List AV)} {c2:Cap} {vx vy:Value} {sz:Nat} (hA:Hq A w) (hx:VR (Cq A w) (.frz es .tight) vx) (hy:VR (Cq A w) (.frz ys c2) vy) (hT:apT prog t=some sz) (h1:B9 sz es=true) (h2:B9 sz ys=true) (h3:es.length+ys.length<=1048576) :
  ∃ v w',(Oa #[t,t] ty #[vx,vy]).run prog w=.ok v w'/\Below w.heap.size w w'/\VR (Cq A w') (.frz (es++ys) .unk) v:=by
 have hap:apA prog t (.frz es .tight) (.frz ys c2) (Cq A w).tk=some (.frz (es++ys) (Bg [] .tight sz),G6 [] .tight):=by
  simp only [apA,hT];rw [if_pos ⟨rfl,h1,h2,by unfold Agp; rw [decide_eq_true h3]; rfl⟩]; rfl
 obtain ⟨v,C',h4,hle,-,-,-,-,hv⟩:=Yt (P:=prog) (Arb hA) hx hy hap;refine ⟨v,C'.w,h4,⟨hle.os,hle.tape,hle.output,hle.size,fun b hb=>hle.keep b hb fun o hm=>Acv hm⟩,?_⟩;simp only [VR] at hv ⊢;obtain ⟨a,len,cap,rfl,g1,g2,-,g4⟩:=hv;refine ⟨a,len,cap,rfl,g1,g2,trivial,g4.imp id ?_⟩;rintro ⟨b,o,s',rfl,hr⟩;exact ⟨b,o,s',rfl,Bf.stays (A':=(Cq A C'.w).Avoid) (fun _ _ _ hv ha=>⟨hv,M5 fun h=>ha (.inl Za4b)⟩) _ _ _ _ hr⟩
theorem Adv {o:Oper} {ρ:Operand->Value} {s x:Operand} {t:TypeId} {w w':World} {v:Value} (ho:o.op=.call { callee:=.builtin .append,args:=#[s,x],argTypes:=#[t,t] }) (h:(Oa #[t,t] o.type #[ρ s,ρ x]).run prog w=.ok v w') :
  (execOp ρ o).run prog w=.ok (.value v) w':=by
 simp [execOp,ho,resolve,invoke,builtin,h]
theorem Acq {ops:Array Oper} {rest:List Oper} {o:Oper} {a:Act} {Q:Exit->Act->World->Prop} {w:World} {s x:Operand} {t:TypeId} {es ys:List (List AV)} {c2:Cap} {sz:Nat} (hg:o.guard=none) (ho:o.op=.call { callee:=.builtin .append,args:=#[s,x],argTypes:=#[t,t] })
  (hA:Hq A w) (hx:VR (Cq A w) (.frz es .tight) (a.eval s)) (hy:VR (Cq A w) (.frz ys c2) (a.eval x)) (hT:apT prog t=some sz) (h1:B9 sz es=true) (h2:B9 sz ys=true) (h3:es.length+ys.length<=1048576)
  (h:∀ v' w',Below w.heap.size w w'->VR (Cq A w') (.frz (es++ys) .unk) v'->wpList prog ops Q rest (a.put o.dst v') w'):wpList prog ops Q (o :: rest) a w:=by
 obtain ⟨v,w',h4,h5,h6⟩:=Ae0 (ty:=o.type) hA hx hy hT h1 h2 h3;exact wpList_plain hg fun K hK=>Gh (Adv ho h4) (hK _ _ (h v w' h5 h6))
theorem Yc {n:Nat} {ops:Array Oper} {rest:List Oper} {o:Oper} {a:Act} {Q:Exit->Act->World->Prop} {w:World} {s x:Operand} {t:TypeId} {es ys:List (List AV)} {c2:Cap} {sz:Nat} (hg:o.guard=none) (ho:o.op=.call { callee:=.builtin .append,args:=#[s,x],argTypes:=#[t,t] })
  (hA:Hq A w) (hx:VR (Cq A w) (.frz es .tight) (a.eval s)) (hy:VR (Cq A w) (.frz ys c2) (a.eval x)) (hT:apT prog t=some sz) (h1:B9 sz es=true) (h2:B9 sz ys=true) (h3:es.length+ys.length<=1048576)
  (h:∀ v' w',Below w.heap.size w w'->VR (Cq A w') (.frz (es++ys) .unk) v'->wpListIn Fence.wide n prog ops Q rest (a.put o.dst v') w'):wpListIn Fence.wide n prog ops Q (o :: rest) a w:=by
 obtain ⟨v,w',h4,h5,h6⟩:=Ae0 (ty:=o.type) hA hx hy hT h1 h2 h3;refine wpListIn_plain hg fun K hK=>⟨fun _ _=>trivial,?_⟩;have e:(o.semAt Fence.wide.round a.eval).run prog w=.ok (.value v) w':=Adv ho h4;rw [e];exact hK _ _ (h v w' h5 h6)
def Kv (A:Nat->Nat->Prop) (a:AV):Iv.Know:=⟨fun w v=>VR (Cq A w) a v,fun _ _ _ h hv=>hv.below0 h⟩
theorem An5 {w:World} {pt:Pt} {a:Option Addr} {cap:Nat} (h:VR (Cq A w) (Ag pt) (.slice a pt.length cap)):VR (Cq A w) (.frz (pt.map Bi) .tight) (.slice a pt.length pt.length):=by
 simp only [Ag,VR] at h ⊢;obtain ⟨a',len,cap',h0,h1,h2,-,h4⟩:=h;cases h0;exact ⟨_,_,_,rfl,h1,Cc _,rfl,h4⟩
theorem Aqe {w:World} {s:ByteArray} {n:Int} {t:TypeId} (hA:Hq A w):VR (Cq A (w.alloc (.cells #[.string s,.int .i64 n] t))) (.frz [Bi (s,n)] .tight) (.slice (some ⟨w.heap.size,0,none⟩) 1 1):=by
 have h:(w.alloc (.cells #[.string s,.int .i64 n] t)).heap[w.heap.size]?=some (.cells #[.string s,.int .i64 n] t (0,0)):=An w _;simp only [VR];refine ⟨_,_,_,rfl,rfl,Cc _,rfl,.inr ⟨w.heap.size,0,2,rfl,?_⟩⟩;exact Mv [(s,n)] 0 fun j u hj=>⟨by
  show (w.alloc (.cells #[.string s,.int .i64 n] t)).cell? _=some u;match j,hj with
  | 0,hj=>simp only [L8,F2,A2] at hj; subst hj; unfold Fz; dsimp only; rw [h]; rfl
  | 1,hj=>simp only [L8,List.getElem?_cons_succ,F2,A2] at hj; subst hj; unfold Fz; dsimp only; rw [h]; rfl
  | j+2,hj=>simp [L8] at hj,fun h=>by have:=hA _ _ h; omega⟩
end
end Go.Proofs.YtcandeobhlfkbaaGreat
