/- Part 17. -/
import Derived.Test.YthelkgdmgihhiaaGreatZB16
open And renaming intro->B2
open Bool renaming and_eq_true->Ci,false_eq_true->C5,or_false->Fs,not_false->Fw,false_and->F4,not_true->F5,not_eq_true'->Gb,true_and->G2,or_eq_true->Ht,false_ne_true->Nz,eq_iff_iff->iB,or_true->jS
open Go.IntKind renaming i64->Ce
open Go.Proofs.YthelkgdmgihhiaaGreat.AV renaming bool->Ca,int->Cc,str->Cd
open Int renaming tdiv_eq_ediv_of_nonneg->C8,mul_comm->F3,mul_assoc->Ia,natAbs_mul->Ib,tmod_eq_emod_of_nonneg->Ic,mul_add->Ir,mul_ne_zero->I3,mul_nonneg->Oi,natCast_nonneg->O0,add_zero->O2,neg_mul->O4,natCast_mul->O9,mul_zero->Sa,add_assoc->gR,reduceNeg->jE,natAbs_tdiv->jM,natAbs->kF
open List renaming replicate->Cg,length_cons->Cm,map_cons->Cn,cons_append->Cp,length_append->Cs,map_nil->Ct,getElem?_append_left->Cu,nil_append->Cz,getElem?_append_right->C3,mem_cons->C6,drop_length->C9,length_eq_zero_iff->Fc,flatten_cons->Ff,mem_map->Fg,drop_zero->Fi,drop_eq_nil_of_le->Fx,getElem?_map->F1,map_append->F6,length_map->F8,take_succ_cons->F9,mem_of_getElem?->Iq,getElem?_eq_getElem->It,mem_replicate->Iu,getElem?_take->I2,length_pos_iff->Oe,set_append_right->fX,drop_append->gI,length_set->iA
open Nat renaming le_refl->Cf,zero_le->Cl,le_trans->Fe,lt_of_lt_of_le->Ft,lt_or_ge->Ie,lt_of_le_of_lt->Ij,add_zero->Io,mul_comm->Ip,gcd_pos_of_pos_right->I6,pow_succ->Lq,sub_self->Mg,div_le_self->Ob,succ_mul->Oc,zero_mul->Oj,mod_lt->Ov,gcd_zero_right->Oz,strongRecOn->Sq,pow_pos->Ss,gcd_le_right->Sy,add_assoc->fW,gcd_comm->gL,reduceEqDiff->gN,reduceLeDiff->gP,reduceAdd->gX,reduceSub->jB,reduceBEq->jC,reduceMul->jD,Coprime->jK,le_of_lt->jU,reduceLT->jV
open Ne renaming symm->O3
open Option renaming map_some->Cy
open Option.some renaming injEq->A3
namespace Go.Proofs.YthelkgdmgihhiaaGreat
section
open Go Tryz
theorem Ja {p:Bool} {l:List Int} (h:D6 p l=true):p=decide (V p l<0)/\l=dig (V p l).natAbs:=by
 have ha:=Aps p l;rw [if_pos h] at ha;refine ⟨?_,ha.symm⟩;have hs:=V_sg p l;cases p with
 | false =>
  have:¬ V false l<0:=by rw [hs]; simp [sg]
  simp [this]
 | true =>
  have hl:l≠[]:=fun e=>by subst e; simp [D6] at h
  have h0:(V true l).natAbs≠0:=fun e=>by rw [e,Bp] at ha; exact hl ha.symm
  have:V true l<0:=by rw [hs]; simp only [sg,if_true]; omega
  simp [this]
def Wc (n d:Int):Bool:=decide (0<d) && decide (n.natAbs.gcd d.natAbs=1)
def Lw (p:Bool) (l:List Int) (q:Bool) (r:List Int):Bool:=D6 p l && D6 q r && Wc (V p l) (V q r)
def nQ (p:Bool) (l:List Int) (q:Bool) (r:List Int):Int:=if Lw p l q r=true then V p l else 0
def dQ (p:Bool) (l:List Int) (q:Bool) (r:List Int):Int:=if Lw p l q r=true then V q r else 1
theorem At1 (g:Nat):decide (cmpN g 1=0)=decide (g=1):=by
 rw [decide_eq_decide];unfold cmpN;split
 ·omega
 ·split <;> omega
section
variable (S:List Ent) (tk:List Nat) (k:Nat)
theorem Zh (a:Nat) (ha:(dig a).length<=1000000):cL prog 233 [digA (dig a),.frz [[.prim (.int .i64 1)]] .tight] S tk k=some (.int (cmpN a 1),S,tk,k):=by
 have v7:dig 1=[(1:Int)]:=T3 (d:=(1:Int)) aA aA;have h2:=told (E:=E1) (Ps S tk k a 1 ha (by rw [v7]; simp));rw [v7] at h2;exact (Wa (args:=[digA (dig a),.frz [[.prim (.int .i64 1)]] .tight]) (args':=[digA (dig a),digA [(1:Int)]]) rfl rfl rfl).trans h2
theorem Anr (p:Bool) (l:List Int) (q:Bool) (r:List Int) (hl:l.length<=1000000) (hr:r.length<=1000000):cL prog 261 [ratA p l q r] S tk k=some (.bool (Lw p l q r),S,tk,k):=by
 have qy S tk k:=told (E:=E1) (J3 S tk k p l .unk hl);have q6 S tk k:=told (E:=E1) (J3 S tk k q r .unk hr);refine opP func261 ntmps261 (hp3:=rfl) ?_;unfold Lw;cases h1:D6 p l with
 | false =>
  rw [h1] at qy;simp (maxSteps:=10^6)+contextual(disch:=try exact dqd)only[ev1,simprocAttr,Cc,Ca,Cd,results261,ratA,digA,qy,F4]
 | true =>
 rw [h1] at qy;cases h2:D6 q r with
 | false =>
  rw [h2] at q6;simp (maxSteps:=10^6)+contextual(disch:=try exact dqd)only[ev1,simprocAttr,Cc,Ca,Cd,results261,ratA,digA,qy,q6,F4,G2]
 | true =>
 rw [h2] at q6;obtain ⟨hp,dv⟩:=Ja h1;obtain ⟨hq,zh⟩:=Ja h2;have q7:=(Lx h1).2.2;have jp:=(Lx h2).2.2;by_cases hq0:q=true
 ·subst hq0;have hg:Wc (V p l) (V true r)=false:=by
   have:V true r<0:=by simpa using hq.symm
   have h3:¬ 0<V true r:=aA
   simp [Wc,h3]
  rw [hg];simp (maxSteps:=10^6)+contextual(disch:=try exact dqd)only[ev1,simprocAttr,Cc,Ca,Cd,results261,ratA,digA,qy,q6,G2]
 ·have hqf:q=false:=by simpa using hq0
  subst hqf;have dq:0<=V false r:=by
   have:¬ V false r<0:=by simpa using hq.symm
   omega
  by_cases ci:r=[]
  ·subst ci;have hg:Wc (V p l) (V false [])=false:=by
    have:V false []=0:=by have:=Ey.1 zh.symm; omega
    simp [Wc,this]
   rw [hg];simp only [Ct] at q6;have iz:(((0:Nat):Int) == 0)=true:=rfl;simp (maxSteps:=10^6)+contextual(disch:=try exact dqd)only[ev1,simprocAttr,Cc,Ca,Cd,results261,ratA,digA,qy,q6,iz,G2]
  ·have a00:(((r.length:Nat):Int) == 0)=false:=by
    have:=Oe.2 ci;simp; omega
   have hd1:0<V false r:=by
    have:(V false r).natAbs≠0:=fun e=>ci (by rw [zh,e,Bp]);omega
   have hgd:Wc (V p l) (V false r)=decide ((V p l).natAbs.gcd (V false r).natAbs=1):=by simp [Wc,hd1]
   rw [hgd];have di S tk k:=Vm S tk k (V p l);have bg S tk k:=Vm S tk k (V false r);simp only [zA,bigA,digA,<- hp,<- dv,<- hq,<- zh] at di bg;by_cases hs:smB (V p l)=true/\smB (V false r)=true
   ·obtain ⟨s1,s2⟩:=hs;have e1:smN (V p l)=V p l:=by simp [smN,s1]
    have e2:smN (V false r)=V false r:=by simp [smN,s2]
    have b1:=Xq s1;have b2:=Xq s2;rw [e1,s1] at di;rw [e2,s2] at bg;have hw:Ce.wrap (0 - V p l)=- V p l:=aP
    have hm:(if - V p l > V p l then - V p l else V p l)=((V p l).natAbs:Int):=eA
    have hC S tk k:=told (E:=E1) (Qr S tk k (V p l).natAbs (V false r).natAbs aA aA);have hda:((V false r).natAbs:Int)=V false r:=aA
    rw [hda] at hC;have iy:((((V p l).natAbs.gcd (V false r).natAbs:Nat):Int) == 1)=decide ((V p l).natAbs.gcd (V false r).natAbs=1):=by
     rw [iB]; simp; omega
    simp (maxSteps:=10^6)+contextual(disch:=try exact dqd)only[ev1,simprocAttr,Cc,Ca,Cd,results261,maxA_int,ratA,digA,qy,q6,a00,di,bg,hw,hm,hC,iy,G2]
   ·have hD S tk k:=Vk S tk k (V p l).natAbs (V false r).natAbs (by rw [<- dv]; omega) (by rw [<- zh]; omega);rw [<- dv,<- zh] at hD;have hgl:(dig ((V p l).natAbs.gcd (V false r).natAbs)).length<=200:=by
     have h3:(V p l).natAbs.gcd (V false r).natAbs<=(V false r).natAbs:=Sy _ aA;have h4:(dig (V false r).natAbs).length<=200:=by rw [<- zh]; exact jp
     exact A9.2 (Ij h3 (A9.1 h4))
    have hO S tk k:=Zh S tk k ((V p l).natAbs.gcd (V false r).natAbs) aA;have c8:(cmpN ((V p l).natAbs.gcd (V false r).natAbs) 1 == 0)=decide ((V p l).natAbs.gcd (V false r).natAbs=1):=by
     rw [<- At1]; rfl
    simp only [digA] at hD hO;cases s1:smB (V p l) with
    | false =>
     rw [s1] at di;exact Ya0j
    | true =>
     have s2:smB (V false r)=false:=by simpa [s1] using hs
     rw [s1] at di;rw [s2] at bg;exact Ya0j
end
theorem V6 {p:Bool} {l:List Int} {q:Bool} {r:List Int} (h:Lw p l q r=true):D6 p l=true/\D6 q r=true/\Wc (V p l) (V q r)=true:=by
 unfold Lw at h;simp only [Ci] at h;exact ⟨h.1.1,h.1.2,h.2⟩
theorem Ai4 {p:Bool} {l:List Int} {q:Bool} {r:List Int} (h:Lw p l q r=true):ratA p l q r=qA (V p l) (V q r):=by
 obtain ⟨h1,h2,-⟩:=V6 h;obtain ⟨a1,a2⟩:=Ja h1;obtain ⟨b1,b2⟩:=Ja h2;unfold qA;rw [<- a1,<- a2,<- b1,<- b2]
structure Jv (n d:Int):Prop where
 pos:0<d
 cop:n.natAbs.gcd d.natAbs=1
 ln:(dig n.natAbs).length<=200
 ld:(dig d.natAbs).length<=200
theorem Lc (p:Bool) (l:List Int) (q:Bool) (r:List Int):Jv (nQ p l q r) (dQ p l q r):=by
 unfold nQ dQ;cases h:Lw p l q r with
 | false =>
  simp only [C5,if_false];exact ⟨aA,rfl,aR,aR⟩
 | true =>
  obtain ⟨h1,h2,h3⟩:=V6 h;simp only [Wc,Ci,decide_eq_true_eq] at h3;exact ⟨h3.1,h3.2,M6 p l,M6 q r⟩
def Gx (n d:Int):Bool:=!decide (d=0) && okZ (lowN n d) && okZ (lowD n d)
def resN (n d:Int):Int:=if Gx n d=true then lowN n d else 0
def resD (n d:Int):Int:=if Gx n d=true then lowD n d else 0
def resQ (n d:Int):AV:=.tup [qA (resN n d) (resD n d),.bool (Gx n d)]
theorem U0 (n d:Int):(lowN n d).natAbs=n.natAbs / n.natAbs.gcd d.natAbs:=by
 unfold lowN;rw [jM];split <;> simp <;> rfl
theorem Aq7 (n d:Int) (hd:d≠0):(decide (n<0) != decide (d<0) && !decide (dig (n.natAbs / n.natAbs.gcd d.natAbs)=[]))=decide (lowN n d<0):=by
 have ha:=U0 n d;have j8:0<n.natAbs.gcd d.natAbs:=I6 _ aA;have hz:dig (n.natAbs / n.natAbs.gcd d.natAbs)=[]↔lowN n d=0:=by rw [Ey,<- ha]; omega
 have hsg:∀ x:Int,0<=x->0<=x.tdiv ((n.natAbs.gcd d.natAbs:Nat):Int):=fun x hx=>Int.tdiv_nonneg hx aA;have hneg:∀ x:Int,x<=0->x.tdiv ((n.natAbs.gcd d.natAbs:Nat):Int)<=0:=fun x hx=>by
  have h1:=hsg (-x) aA;rw [Int.neg_tdiv] at h1;omega
 rw [iB];simp only [Ci,bne_iff_ne,ne_eq,decide_eq_decide,Gb,decide_eq_false_iff_not,decide_eq_true_eq,hz];by_cases h:d<0
 ·have e:lowN n d=(-n).tdiv ((n.natAbs.gcd d.natAbs:Nat):Int):=by unfold lowN; rw [if_pos h]
  have h1:=hsg (-n);have h2:=hneg (-n);rw [<- e] at h1 h2;constructor
  ·rintro ⟨h3,h4⟩; have:0<=n:=aA
   have:=h2 aA; omega
  ·intro h3;have:¬ 0<=-n:=fun h4=>by have:=h1 h4; omega
   omega
 ·have e:lowN n d=n.tdiv ((n.natAbs.gcd d.natAbs:Nat):Int):=by unfold lowN; rw [if_neg h]
  have h1:=hsg n;have h2:=hneg n;rw [<- e] at h1 h2;constructor
  ·rintro ⟨h3,h4⟩; have:n<0:=aA
   have:=h2 aA; omega
  ·intro h3;have:¬ 0<=n:=fun h4=>by have:=h1 h4; omega
   omega
section
variable (S:List Ent) (tk:List Nat) (k:Nat)
theorem Hp (p:Bool) (l:List Int) (q:Bool) (r:List Int) (hl:l.length<=1000000) (hr:r.length<=1000000):cL prog 254 [ratA p l q r] S tk k=some (qA (nQ p l q r) (dQ p l q r),S,tk,k):=by
 have hV S tk k:=Anr S tk k p l q r hl hr;have hZ S tk k:=Aro S tk k;refine opP func254 ntmps254 (hp3:=rfl) ?_;unfold nQ dQ;cases h:Lw p l q r with
 | true =>
  rw [h] at hV;have e:=Ai4 h;simp only [if_true];rw [<- e];simp only [ratA,digA] at hV;simp (maxSteps:=10^6)+contextual(disch:=try exact dqd)only[ev1,simprocAttr,Cc,Ca,Cd,results254,ratA,digA,hV]
 | false =>
  rw [h] at hV;simp only [C5,if_false];simp only [ratA,qA,digA] at hV hZ;simp (maxSteps:=10^6)+contextual(disch:=try exact dqd)only[ev1,simprocAttr,Cc,Ca,Cd,results254,ratA,qA,digA,hV,hZ]
theorem Mn (n d:Int) (hn:(dig n.natAbs).length<=90000) (hd:(dig d.natAbs).length<=90000) (dq:d≠0):cL prog 225 [zA n,zA d] S tk k=some (resQ n d,S,tk,k):=by
 refine opP func225 ntmps225 (hp3:=rfl) ?_;have j8:0<n.natAbs.gcd d.natAbs:=I6 _ aA;have hD S tk k:=Vk S tk k n.natAbs d.natAbs hn hd;have hgl:(dig (n.natAbs.gcd d.natAbs)).length<=90000:=by
  have h3:n.natAbs.gcd d.natAbs<=d.natAbs:=Sy _ aA;exact Fe (A9.2 (Ij h3 (A9.1 (Cf _)))) hd
 have hQ1 S tk k:=Lt S tk k n.natAbs (n.natAbs.gcd d.natAbs) .unk .unk j8 hn hgl;have zw S tk k:=Lt S tk k d.natAbs (n.natAbs.gcd d.natAbs) .unk .unk j8 hd hgl;have hla:=U0 n d;have hlb:(lowD n d).natAbs=d.natAbs / n.natAbs.gcd d.natAbs:=rfl;have hs:=Aq7 n d dq;have hp:=Yj (n.natAbs / n.natAbs.gcd d.natAbs);have hdn:decide (lowD n d<0)=false:=by
  have:¬ lowD n d<0:=by unfold lowD; omega
  simp [this]
 have hC:=fun (m:Nat) (h:(dig m).length<=200) S tk k=>Zq S tk k (dig m) .unk aA;unfold resQ resN resD;simp only [digA] at hD hQ1 zw hC;by_cases h1:(dig (n.natAbs / n.natAbs.gcd d.natAbs)).length<=200
 ·have d1:decide (((dig (n.natAbs / n.natAbs.gcd d.natAbs)).length:Int) > 200)=false:=aC
  by_cases h2:(dig (d.natAbs / n.natAbs.gcd d.natAbs)).length<=200
  ·have d2:decide (((dig (d.natAbs / n.natAbs.gcd d.natAbs)).length:Int) > 200)=false:=aC
   have hf:Gx n d=true:=Za1g
   have hC1:=hC _ h1;have hC2:=hC _ h2;rw [hf];simp only [if_true,qA,hla,hlb,<- hs,hdn];have hbn:(decide (n<0) != decide (d<0))=!(decide (n<0) == decide (d<0)):=rfl;rw [hbn];cases d3:decide (n<0) == decide (d<0) with
   | true=>simp (maxSteps:=10^6)+contextual(disch:=try exact dqd)only[ev1,simprocAttr,Cc,Ca,Cd,results225,zA,bigA,ratA,digA,hD,hQ1,zw,d1,d2,d3,hbn,hp,hC1,hC2,F5,Fw,G2,F4]
   | false=>simp (maxSteps:=10^6)+contextual(disch:=try exact dqd)only[ev1,simprocAttr,Cc,Ca,Cd,results225,zA,bigA,ratA,digA,hD,hQ1,zw,d1,d2,d3,hbn,hp,hC1,hC2,F5,Fw,G2,F4]
  ·have d2:decide (((dig (d.natAbs / n.natAbs.gcd d.natAbs)).length:Int) > 200)=true:=aC
   have hf:Gx n d=false:=Za1g
   rw [hf];simp only [C5,if_false];have hz:dig 0=[]:=Bp;simp (maxSteps:=10^6)+contextual(disch:=try exact dqd)only[ev1,simprocAttr,Cc,Ca,Cd,results225,zA,bigA,qA,ratA,digA,hz,hD,hQ1,zw,d1,d2]
 ·have d1:decide (((dig (n.natAbs / n.natAbs.gcd d.natAbs)).length:Int) > 200)=true:=aC
  have hf:Gx n d=false:=Za1g
  rw [hf];simp only [C5,if_false];have hz:dig 0=[]:=Bp;simp (maxSteps:=10^6)+contextual(disch:=try exact dqd)only[ev1,simprocAttr,Cc,Ca,Cd,results225,zA,bigA,qA,ratA,digA,hz,hD,hQ1,zw,d1]
end
theorem H1 {x y:Int} {a b:Nat} (hx:(dig x.natAbs).length<=a) (hy:(dig y.natAbs).length<=b):(dig (x*y).natAbs).length<=a+b:=by
 rw [A9] at hx hy ⊢;rw [Ib,Nat.pow_add];exact Nat.mul_lt_mul_of_lt_of_le hx aA (Ss aK)
theorem Aq3 {x y:Int} {a:Nat} (hx:(dig x.natAbs).length<=a) (hy:(dig y.natAbs).length<=a):(dig (x+y).natAbs).length<=a+1:=by
 rw [A9] at hx hy ⊢;rw [Lq];omega
theorem Aq4 {y:Int} {a:Nat} (hy:(dig y.natAbs).length<=a):(dig (-y).natAbs).length<=a:=by
 rw [show (-y).natAbs=y.natAbs by omega]; exact hy
theorem Aib {n d:Int} (hn:n.natAbs<=100000000000000000) (hd:d.natAbs<=100000000000000000) (dq:d≠0):Gx n d=true:=by
 have h1:(dig (lowN n d).natAbs).length<=5:=A9.2 (by
  have:=Ob n.natAbs (n.natAbs.gcd d.natAbs);rw [<- U0] at this;omega)
 have h2:(dig (lowD n d).natAbs).length<=5:=A9.2 (by
  have:=Ob d.natAbs (n.natAbs.gcd d.natAbs);have e:(lowD n d).natAbs=d.natAbs / n.natAbs.gcd d.natAbs:=rfl;rw [e];omega)
 simp only [Gx,okZ];simp [dq];omega
theorem Vq {n d:Int} (hn:n.natAbs<=100000000000000000) (hd:d.natAbs<=100000000000000000) (dq:d≠0):resQ n d=.tup [qA (lowN n d) (lowD n d),.bool true]:=by
 have h:=Aib hn hd dq;unfold resQ resN resD;rw [h]; rfl
theorem R9 (n:Int):resQ n 0=.tup [qA 0 0,.bool false]:=rfl
theorem G7 {a b:Int} (ha:smB a=true) (hb:smB b=true):(a*b).natAbs<10000000000000000:=by
 have h1:=Xq ha;have h2:=Xq hb;rw [Ib];have:=Nat.mul_lt_mul_of_lt_of_le h1 (jU h2) (by omega:0<100000000);omega
theorem Mr {z:Int} (h:smB z=true):smN z=z:=by simp [smN,h]
def ofQ (p:Bool) (l:List Int) (q:Bool) (r:List Int):AV:=resQ (V p l) (if D6 p l=true then V q r else 0)
section
variable (S:List Ent) (tk:List Nat) (k:Nat)
theorem Ayb (p:Bool) (l:List Int) (q:Bool) (r:List Int) (hl:l.length<=1000000) (hr:r.length<=1000000):cL prog 224 [bigA p l,bigA q r] S tk k=some (ofQ p l q r,S,tk,k):=by
 have qy S tk k:=told (E:=E1) (J3 S tk k p l .unk hl);have q6 S tk k:=told (E:=E1) (J3 S tk k q r .unk hr);refine opP func224 ntmps224 (hp3:=rfl) ?_;have hz:dig 0=[]:=Bp;have zx:decide ((0:Int)<0)=false:=aK
 unfold ofQ;cases h1:D6 p l with
 | false =>
  rw [h1] at qy;rw [if_neg (by simp),R9];simp (maxSteps:=10^6)+contextual(disch:=try exact dqd)only[ev1,simprocAttr,Cc,Ca,Cd,results224,qA,ratA,bigA,digA,hz,zx,qy]
 | true =>
 rw [h1] at qy;rw [if_pos rfl];cases h2:D6 q r with
 | false =>
  rw [h2] at q6;rw [V_bad h2,R9];simp (maxSteps:=10^6)+contextual(disch:=try exact dqd)only[ev1,simprocAttr,Cc,Ca,Cd,results224,qA,ratA,bigA,digA,hz,zx,qy,q6]
 | true =>
 rw [h2] at q6;obtain ⟨hp,dv⟩:=Ja h1;obtain ⟨hq,zh⟩:=Ja h2;by_cases ci:r=[]
 ·subst ci;have e0:V q []=0:=by have:=Ey.1 zh.symm; omega
  rw [e0,R9];simp only [Ct] at q6;have iz:(((0:Nat):Int) == 0)=true:=rfl;simp (maxSteps:=10^6)+contextual(disch:=try exact dqd)only[ev1,simprocAttr,Cc,Ca,Cd,results224,qA,ratA,bigA,digA,hz,zx,iz,qy,q6]
 ·have iz:(((r.length:Nat):Int) == 0)=false:=by
   have:=Oe.2 ci;simp; omega
  have dq:V q r≠0:=fun e=>ci (by rw [zh,e]; rfl);have hR S tk k:=Mn S tk k (V p l) (V q r) (by have:=M6 p l; omega) (by have:=M6 q r; omega) dq;have hO1 S tk k:=Hd S tk k (V p l);have hO2 S tk k:=Hd S tk k (V q r);simp only [zA,bigA,digA,<- hp,<- dv,<- hq,<- zh] at hR hO1 hO2;simp only [resQ,qA,ratA,digA] at hR ⊢;simp (maxSteps:=10^6)+contextual(disch:=try exact dqd)only[ev1,simprocAttr,Cc,Ca,Cd,results224,qA,ratA,bigA,digA,iz,qy,q6,hO1,hO2,hR]
theorem Avc (p1:Bool) (l1:List Int) (q1:Bool) (r1:List Int) (p2:Bool) (l2:List Int) (q2:Bool) (r2:List Int) (h1:l1.length<=1000000) (h2:r1.length<=1000000) (h3:l2.length<=1000000) (h4:r2.length<=1000000) :
  cL prog 252 [ratA p1 l1 q1 r1,ratA p2 l2 q2 r2] S tk k=some (resQ (nQ p1 l1 q1 r1*nQ p2 l2 q2 r2) (dQ p1 l1 q1 r1*dQ p2 l2 q2 r2),S,tk,k):=by
 have hA S tk k:=Hp S tk k p1 l1 q1 r1 h1 h2;have hB S tk k:=Hp S tk k p2 l2 q2 r2 h3 h4;have gA:=Lc p1 l1 q1 r1;have gB:=Lc p2 l2 q2 r2;generalize nQ p1 l1 q1 r1=a at *;generalize dQ p1 l1 q1 r1=b at *;generalize nQ p2 l2 q2 r2=c at *;generalize dQ p2 l2 q2 r2=d at *;have rt:b*d≠0:=I3 Za4l (by have:=gB.pos; omega);refine opP func252 ntmps252 (hp3:=rfl) ?_;have hK S tk k:=Pt S tk k a b c d;cases hs:smB a && smB b && smB c && smB d with
 | true =>
  rw [hs] at hK;simp only [Ci] at hs;obtain ⟨⟨⟨s1,s2⟩,s3⟩,s4⟩:=hs;rw [Mr s1,Mr s2,Mr s3,Mr s4] at hK;have b1:=G7 s1 s3;have b2:=G7 s2 s4;have hw1:Ce.wrap (a*c)=a*c:=Aa aD;have hw2:Ce.wrap (b*d)=b*d:=Aa aD;have hF S tk k:=Ls S tk k (a*c) (b*d) aA aA rt;rw [Vq aA aA rt];simp only [qA,ratA,digA] at hA hB hK hF ⊢;simp (maxSteps:=10^6)+contextual(disch:=try exact dqd)only[ev1,simprocAttr,Cc,Ca,Cd,results252,ratA,digA,hA,hB,hK,hF,hw1,hw2]
 | false =>
  rw [hs] at hK;have hO1 S tk k:=Hd S tk k a;have hO2 S tk k:=Hd S tk k b;have u7 S tk k:=Hd S tk k c;have hO4 S tk k:=Hd S tk k d;have l1:=gA.ln;have l2:=gA.ld;have l3:=gB.ln;have l4:=gB.ld;have gz S tk k:=Ek S tk k a c aA aA;have au S tk k:=Ek S tk k b d aA aA;have m1:=H1 l1 l3;have m2:=H1 l2 l4;have hR S tk k:=Mn S tk k (a*c) (b*d) aA aA rt;simp only [zA,bigA,digA] at hO1 hO2 u7 hO4 gz au hR;simp only [resQ,qA,ratA,digA] at hA hB hK hR ⊢;simp (maxSteps:=10^6)+contextual(disch:=try exact dqd)only[ev1,simprocAttr,Cc,Ca,Cd,results252,ratA,digA,hA,hB,hK,hO1,hO2,u7,hO4,gz,au,hR]
end
theorem Aar {x y:Int} (hs:decide (x<0)=decide (y<0)):(cmpN x.natAbs y.natAbs == 0)=decide (x=y):=by
 have h1:(x<0)↔(y<0):=by simpa using hs
 rw [iB];simp only [beq_iff_eq,decide_eq_true_eq];unfold cmpN;split
 ·omega
 ·split <;> omega
theorem Ak4 {x y:Int} (h:x<y):cmpZ x y=-1:=by simp [cmpZ,h]
theorem Ak3 {x y:Int} (h:y<x):cmpZ x y=1:=by unfold cmpZ; rw [if_neg aA,if_pos h]
theorem Ak2 {x y:Int} (h:x=y):cmpZ x y=0:=by unfold cmpZ; rw [if_neg aA,if_neg aA]
section
variable (S:List Ent) (tk:List Nat) (k:Nat)
theorem Avb (p1:Bool) (l1:List Int) (q1:Bool) (r1:List Int) (p2:Bool) (l2:List Int) (q2:Bool) (r2:List Int) (h1:l1.length<=1000000) (h2:r1.length<=1000000) (h3:l2.length<=1000000) (h4:r2.length<=1000000) :
  cL prog 250 [ratA p1 l1 q1 r1,ratA p2 l2 q2 r2] S tk k=some (resQ (nQ p1 l1 q1 r1*dQ p2 l2 q2 r2) (dQ p1 l1 q1 r1*nQ p2 l2 q2 r2),S,tk,k):=by
 have hA S tk k:=Hp S tk k p1 l1 q1 r1 h1 h2;have hB S tk k:=Hp S tk k p2 l2 q2 r2 h3 h4;have gA:=Lc p1 l1 q1 r1;have gB:=Lc p2 l2 q2 r2;generalize nQ p1 l1 q1 r1=a at *;generalize dQ p1 l1 q1 r1=b at *;generalize nQ p2 l2 q2 r2=c at *;generalize dQ p2 l2 q2 r2=d at *;refine opP func250 ntmps250 (hp3:=rfl) ?_;have hz:dig 0=[]:=Bp;have zx:decide ((0:Int)<0)=false:=aK
 by_cases hc:c=0
 ·subst hc;have iz:((((dig (kF 0)).length:Nat):Int) == 0)=true:=rfl;have iz2:(((0:Nat):Int) == 0)=true:=rfl;rw [Sa,R9];simp only [qA,ratA,digA,hz,Ct] at hA hB ⊢;simp (maxSteps:=10^6)+contextual(disch:=try exact dqd)only[ev1,simprocAttr,Cc,Ca,Cd,results250,ratA,digA,hz,zx,hA,hB,iz,iz2]
 have iz:((((dig c.natAbs).length:Nat):Int) == 0)=false:=by
  have:(dig c.natAbs)≠[]:=fun e=>hc (by have:=Ey.1 e; omega);have:=Oe.2 this;simp; omega
 have rt:b*c≠0:=I3 Za4l hc;have hK S tk k:=Pt S tk k a b c d;cases hs:smB a && smB b && smB c && smB d with
 | true =>
  rw [hs] at hK;simp only [Ci] at hs;obtain ⟨⟨⟨s1,s2⟩,s3⟩,s4⟩:=hs;rw [Mr s1,Mr s2,Mr s3,Mr s4] at hK;have b1:=G7 s1 s4;have b2:=G7 s2 s3;have hw1:Ce.wrap (a*d)=a*d:=Aa aD;have hw2:Ce.wrap (b*c)=b*c:=Aa aD;have hF S tk k:=Ls S tk k (a*d) (b*c) aA aA rt;rw [Vq aA aA rt];simp only [qA,ratA,digA] at hA hB hK hF ⊢;simp (maxSteps:=10^6)+contextual(disch:=try exact dqd)only[ev1,simprocAttr,Cc,Ca,Cd,results250,ratA,digA,hA,hB,hK,hF,hw1,hw2,iz]
 | false =>
  rw [hs] at hK;have hO1 S tk k:=Hd S tk k a;have hO2 S tk k:=Hd S tk k b;have u7 S tk k:=Hd S tk k c;have hO4 S tk k:=Hd S tk k d;have l1:=gA.ln;have l2:=gA.ld;have l3:=gB.ln;have l4:=gB.ld;have gz S tk k:=Ek S tk k a d aA aA;have au S tk k:=Ek S tk k b c aA aA;have m1:=H1 l1 l4;have m2:=H1 l2 l3;have hR S tk k:=Mn S tk k (a*d) (b*c) aA aA rt;simp only [zA,bigA,digA] at hO1 hO2 u7 hO4 gz au hR;simp only [resQ,qA,ratA,digA] at hA hB hK hR ⊢;simp (maxSteps:=10^6)+contextual(disch:=try exact dqd)only[ev1,simprocAttr,Cc,Ca,Cd,results250,ratA,digA,hA,hB,hK,hO1,hO2,u7,hO4,gz,au,hR,iz]
theorem Arn (x y:Int) (hx:(dig x.natAbs).length<=90000) (hy:(dig y.natAbs).length<=90000):cL prog 258 [zA x,zA y] S tk k=some (.bool (decide (x=y)),S,tk,k):=by
 refine opP func258 ntmps258 (hp3:=rfl) ?_;have hO S tk k:=told (E:=E1) (Ps S tk k x.natAbs y.natAbs aA aA);simp only [digA] at hO;by_cases hs:decide (x<0)=decide (y<0)
 ·have d1:(decide (x<0) == decide (y<0))=true:=by simpa using hs
  by_cases hl:(dig x.natAbs).length=(dig y.natAbs).length
  ·have d2:(((dig x.natAbs).length:Int) == ((dig y.natAbs).length:Int))=true:=by rw [beq_iff_eq]; omega
   have hz:=Aar hs;simp (maxSteps:=10^6)+contextual(disch:=try exact dqd)only[ev1,simprocAttr,Cc,Ca,Cd,results258,zA,bigA,digA,d1,d2,hO,hz]
  ·have d2:(((dig x.natAbs).length:Int) == ((dig y.natAbs).length:Int))=false:=by
    rw [Bool.eq_false_iff]; intro h; exact hl (by have:=beq_iff_eq.1 h; omega)
   have hne:decide (x=y)=false:=by
    have:x≠y:=fun e=>hl (by rw [e]);simp [this]
   rw [hne];simp (maxSteps:=10^6)+contextual(disch:=try exact dqd)only[ev1,simprocAttr,Cc,Ca,Cd,results258,zA,bigA,digA,d1,d2]
 ·have d1:(decide (x<0) == decide (y<0))=false:=by simpa using hs
  have hne:decide (x=y)=false:=by
   have:x≠y:=fun e=>hs (by rw [e]);simp [this]
  rw [hne];simp (maxSteps:=10^6)+contextual(disch:=try exact dqd)only[ev1,simprocAttr,Cc,Ca,Cd,results258,zA,bigA,digA,d1]
theorem Ava (p1:Bool) (l1:List Int) (q1:Bool) (r1:List Int) (p2:Bool) (l2:List Int) (q2:Bool) (r2:List Int) (h1:l1.length<=1000000) (h2:r1.length<=1000000) (h3:l2.length<=1000000) (h4:r2.length<=1000000) :
  cL prog 251 [ratA p1 l1 q1 r1,ratA p2 l2 q2 r2] S tk k=some (.int (cmpZ (nQ p1 l1 q1 r1*dQ p2 l2 q2 r2) (nQ p2 l2 q2 r2*dQ p1 l1 q1 r1)),S,tk,k):=by
 have hA S tk k:=Hp S tk k p1 l1 q1 r1 h1 h2;have hB S tk k:=Hp S tk k p2 l2 q2 r2 h3 h4;have gA:=Lc p1 l1 q1 r1;have gB:=Lc p2 l2 q2 r2;generalize nQ p1 l1 q1 r1=a at *;generalize dQ p1 l1 q1 r1=b at *;generalize nQ p2 l2 q2 r2=c at *;generalize dQ p2 l2 q2 r2=d at *;refine opP func251 ntmps251 (hp3:=rfl) ?_;have hK S tk k:=Pt S tk k a b c d;cases hs:smB a && smB b && smB c && smB d with
 | true =>
  rw [hs] at hK;simp only [Ci] at hs;obtain ⟨⟨⟨s1,s2⟩,s3⟩,s4⟩:=hs;rw [Mr s1,Mr s2,Mr s3,Mr s4] at hK;have b1:=G7 s1 s4;have b2:=G7 s3 s2;have hw1:Ce.wrap (a*d)=a*d:=Aa aD;have hw2:Ce.wrap (c*b)=c*b:=Aa aD;simp only [qA,ratA,digA] at hA hB hK;by_cases g1:a*d<c*b
  ·have d1:decide (a*d<c*b)=true:=fN
   rw [Ak4 g1];simp (maxSteps:=10^6)+contextual(disch:=try exact dqd)only[ev1,simprocAttr,Cc,Ca,Cd,results251,ratA,digA,hA,hB,hK,hw1,hw2,d1]
  ·have d1:decide (a*d<c*b)=false:=fN
   by_cases g2:a*d > c*b
   ·have d2:decide (a*d > c*b)=true:=eG
    rw [Ak3 g2];exact Ya16
   ·have d2:decide (a*d > c*b)=false:=eG
    rw [Ak2 aA];exact Ya16
 | false =>
  rw [hs] at hK;have hO1 S tk k:=Hd S tk k a;have hO2 S tk k:=Hd S tk k b;have u7 S tk k:=Hd S tk k c;have hO4 S tk k:=Hd S tk k d;have l1:=gA.ln;have l2:=gA.ld;have l3:=gB.ln;have l4:=gB.ld;have gz S tk k:=Ek S tk k a d aA aA;have au S tk k:=Ek S tk k c b aA aA;have m1:=H1 l1 l4;have m2:=H1 l3 l2;have hS S tk k:=Arn S tk k (a*d) (c*b) aA aA;have hM S tk k:=V7 S tk k (a*d) (c*b) aA aA;simp only [zA,bigA,digA] at hO1 hO2 u7 hO4 gz au hS hM;simp only [qA,ratA,digA] at hA hB hK;by_cases g1:a*d=c*b
  ·have d1:decide (a*d=c*b)=true:=fN
   rw [d1] at hS;rw [Ak2 g1];simp (maxSteps:=10^6)+contextual(disch:=try exact dqd)only[ev1,simprocAttr,Cc,Ca,Cd,results251,ratA,digA,hA,hB,hK,hO1,hO2,u7,hO4,gz,au,hS]
  ·have d1:decide (a*d=c*b)=false:=fN
   rw [d1] at hS;by_cases g2:a*d<c*b
   ·have d2:decide (a*d - c*b<0)=true:=aC
    rw [d2] at hM;rw [Ak4 g2];exact Ya0y
   ·have d2:decide (a*d - c*b<0)=false:=aC
    rw [d2] at hM;rw [Ak3 aA];exact Ya0y
end
end
section
open Go
theorem Jv.valid {n d:Int} (h:Jv n d):Lw (decide (n<0)) (dig n.natAbs) (decide (d<0)) (dig d.natAbs)=true:=by
 unfold Lw Wc;rw [P6 _ h.ln,P6 _ h.ld,V_of _ h.ln,V_of _ h.ld];simp [h.pos,h.cop]
theorem Jv.nQ {n d:Int} (h:Jv n d):nQ (decide (n<0)) (dig n.natAbs) (decide (d<0)) (dig d.natAbs)=n:=by
 unfold Proofs.YthelkgdmgihhiaaGreat.nQ;rw [if_pos h.valid,V_of _ h.ln]
theorem Jv.dQ {n d:Int} (h:Jv n d):dQ (decide (n<0)) (dig n.natAbs) (decide (d<0)) (dig d.natAbs)=d:=by
 unfold Proofs.YthelkgdmgihhiaaGreat.dQ;rw [if_pos h.valid,V_of _ h.ld]
theorem Jv.neg {n d:Int} (h:Jv n d):Jv (-n) d:=by
 have e:(-n).natAbs=n.natAbs:=aA
 exact ⟨h.pos,by rw [e]; exact h.cop,by rw [e]; exact h.ln,h.ld⟩
end
section
open Go
end
section
open Go
end
section
open Go
end
section
open Go Tryz
set_option maxHeartbeats 1000000
theorem Am7 {a:Int} (ha:smB a=true):smB (-a)=true:=by
 simp only [smB,Int.natAbs_neg] at ha ⊢; exact ha
section
variable (S:List Ent) (tk:List Nat) (k:Nat)
theorem Avd (p1:Bool) (l1:List Int) (q1:Bool) (r1:List Int) (p2:Bool) (l2:List Int) (q2:Bool) (r2:List Int) (h1:l1.length<=1000000) (h2:r1.length<=1000000) (h3:l2.length<=1000000) (h4:r2.length<=1000000) :
  cL prog 253 [ratA p1 l1 q1 r1,ratA p2 l2 q2 r2,.bool true] S tk k=some (resQ (nQ p1 l1 q1 r1*dQ p2 l2 q2 r2+-nQ p2 l2 q2 r2*dQ p1 l1 q1 r1) (dQ p1 l1 q1 r1*dQ p2 l2 q2 r2),S,tk,k):=by
 have hA S tk k:=Hp S tk k p1 l1 q1 r1 h1 h2;have hB S tk k:=Hp S tk k p2 l2 q2 r2 h3 h4;have gA:=Lc p1 l1 q1 r1;have gB:=Lc p2 l2 q2 r2;generalize nQ p1 l1 q1 r1=a at *;generalize dQ p1 l1 q1 r1=b at *;generalize nQ p2 l2 q2 r2=c at *;generalize dQ p2 l2 q2 r2=d at *;have rt:b*d≠0:=I3 Za4l (by have:=gB.pos; omega);refine opP func253 ntmps253 (hp3:=rfl) ?_;have hK S tk k:=Pt S tk k a b c d;cases hs:smB a && smB b && smB c && smB d with
 | true =>
  rw [hs] at hK;simp only [Ci] at hs;obtain ⟨⟨⟨s1,s2⟩,s3⟩,s4⟩:=hs;rw [Mr s1,Mr s2,Mr s3,Mr s4] at hK;have b0:=Xq s3;have b1:=G7 s1 s4;have b2:=G7 (Am7 s3) s2;have b3:=G7 s2 s4;have rr:Ce.wrap (0 - c)=-c:=aP
  have hw1:Ce.wrap (a*d)=a*d:=Aa aD;have hw2:Ce.wrap (-c*b)=-c*b:=Aa aD;have hw3:Ce.wrap (b*d)=b*d:=Aa aD;have zu:Ce.wrap (a*d+-c*b)=a*d+-c*b:=Aa aD;have hF S tk k:=Ls S tk k (a*d+-c*b) (b*d) aA aA rt;rw [Vq aA aA rt];simp only [qA,ratA,digA] at hA hB hK hF ⊢;simp (maxSteps:=10^6)+contextual(disch:=try exact dqd)only[ev1,simprocAttr,Cc,Ca,Cd,results253,ratA,digA,hA,hB,hK,hF,rr,hw1,hw2,hw3,zu]
 | false =>
  rw [hs] at hK;have hO1 S tk k:=Hd S tk k a;have hO2 S tk k:=Hd S tk k b;have u7 S tk k:=Hd S tk k c;have hO4 S tk k:=Hd S tk k d;have l1:=gA.ln;have l2:=gA.ld;have l3:=gB.ln;have l4:=gB.ld;have gz S tk k:=Ek S tk k a d aA aA;have au S tk k:=Ek S tk k b d aA aA;have ee S tk k:=Ek S tk k c b aA aA;have m1:=H1 l1 l4;have m2:=H1 l2 l4;have m3:=H1 l3 l2;have m5:=Aq4 m3;have hP S tk k:=V7 S tk k (a*d) (c*b) aA aA;have e1:a*d - c*b=a*d+-c*b:=by rw [O4]; omega
  rw [e1] at hP;rw [<- O4] at m5;have m4:=Aq3 (x:=a*d) (y:=-c*b) (a:=45000) aA aA;have hR S tk k:=Mn S tk k (a*d+-c*b) (b*d) aA aA rt;simp only [zA,bigA,digA] at hO1 hO2 u7 hO4 gz au ee hP hR;simp only [resQ,qA,ratA,digA] at hA hB hK hR ⊢;simp (maxSteps:=10^6)+contextual(disch:=try exact dqd)only[ev1,simprocAttr,Cc,Ca,Cd,results253,ratA,digA,hA,hB,hK,hO1,hO2,u7,hO4,gz,au,ee,hP,hR]
theorem Arm (p1:Bool) (l1:List Int) (q1:Bool) (r1:List Int) (p2:Bool) (l2:List Int) (q2:Bool) (r2:List Int) (h1:l1.length<=1000000) (h2:r1.length<=1000000) (h3:l2.length<=1000000) (h4:r2.length<=1000000) :
  cL prog 249 [ratA p1 l1 q1 r1,ratA p2 l2 q2 r2] S tk k=some (resQ (nQ p1 l1 q1 r1*dQ p2 l2 q2 r2+-nQ p2 l2 q2 r2*dQ p1 l1 q1 r1) (dQ p1 l1 q1 r1*dQ p2 l2 q2 r2),S,tk,k):=by
 have hJ S tk k:=Avd S tk k p1 l1 q1 r1 p2 l2 q2 r2 h1 h2 h3 h4;refine opP func249 ntmps249 (hp3:=rfl) ?_;simp only [resQ,qA,ratA,digA] at hJ ⊢;simp (maxSteps:=10^6)+contextual(disch:=try exact dqd)only[ev1,simprocAttr,Cc,Ca,Cd,results249,ratA,digA,hJ]
end
end
section
open Go
theorem Wb {l:List Int} {i:Nat} {x:Int} (h:i<l.length):(l.set i x).drop i=x :: l.drop (i+1):=by
 rw [Au (Q6 h)];congr 1;rw [List.drop_set]; simp
theorem Xh (n:Nat):okD (Cg n 0):=fun d hd=>by
 exact Ya3d
structure Tp (A:Nat) (b:Int) (m:Nat) (r:Int) (out:List Int):Prop where
 len:out.length=(dig A).length
 ok:okD out
 r0:0<=r/\r<b
 eqv:val ((dig A).drop m)=val (out.drop m)*b+r
theorem Tp.start {A:Nat} {b:Int} (h:0<b):Tp A b (dig A).length 0 (Cg (dig A).length 0):=by
 refine ⟨by simp,Xh _,aA,?_⟩;exact Ya3n
theorem Tp.step {A:Nat} {b:Int} {m:Nat} {r x:Int} {out:List Int} (h:Tp A b m r out) (hm:m≠0) (q9:m<=(dig A).length) (hx:nth (dig A) (m - 1)=some x) :
  Tp A b (m - 1) ((r*10000+x).tmod b) (out.set (m - 1) ((r*10000+x).tdiv b))/\0<=(r*10000+x).tdiv b/\(r*10000+x).tdiv b<10000/\0<=(r*10000+x).tmod b/\(r*10000+x).tmod b<b:=by
 have hr:=h.r0;have hxk:=B5 (Bd A) hx;have hn:0<=r*10000+x:=aA
 have e1:(r*10000+x).tdiv b=(r*10000+x) / b:=C8 hn;have e2:(r*10000+x).tmod b=(r*10000+x) % b:=Ic hn;have m0:=Int.emod_nonneg (r*10000+x) (show b≠0 by omega);have m1:=Int.emod_lt_of_pos (r*10000+x) (show 0<b by omega);have q0:0<=(r*10000+x) / b:=Int.ediv_nonneg hn aA;have q1:(r*10000+x) / b<10000:=Int.ediv_lt_of_lt_mul aA aA;have c9:m - 1+1=m:=aA
 have hlen:m - 1<out.length:=fC
 rw [e1,e2];refine ⟨⟨bM,Nk h.ok q0 q1,⟨m0,m1⟩,?_⟩,q0,q1,m0,m1⟩;have hv:=h.eqv;rw [Au hx,Wb hlen,val,val,c9,hv];exact Yaw
theorem At9 {A B Q R:Int} (h:A=Q*B+R) (h0:0<=R) (h1:R<B):A / B=Q/\A % B=R:=by
 exact Ya0a
theorem Aqi {A B:Nat} {Q R:Int} (h:(A:Int)=Q*B+R) (h0:0<=R) (h1:R<B):Q=((A / B:Nat):Int)/\R=((A % B:Nat):Int):=by
 obtain ⟨e1,e2⟩:=At9 h h0 h1;rw [<- e1,<- e2];exact Ya32
theorem Tp.done {A B:Nat} {r:Int} {out:List Int} (h:Tp A B 0 r out):Df out=dig (A / B)/\r.toNat=A % B:=by
 have hv:=h.eqv;rw [Fi,Fi,B3] at hv;obtain ⟨e1,e2⟩:=Aqi hv h.r0.1 h.r0.2;rw [Dw h.ok,e1];exact ⟨by congr 1,aA⟩
theorem Ann (n:Nat):((10000 ^ n:Nat):Int)=(10000:Int) ^ n:=Int.natCast_pow ..
structure Dg (a d z i:Nat) (c:Int) (out:List Int):Prop where
 len:out.length=z+i
 ok:okD out
 c0:0<=c/\c<=9999
 eqv:val out+10000 ^ (z+i)*(c+d*val ((dig a).drop i))=(a*d*10000 ^ z:Nat)
theorem Dg.start (a d z:Nat):Dg a d z 0 0 (Cg z 0):=by
 refine ⟨by simp,Xh _,aA,?_⟩;rw [H4,Fi,B3,O9,O9,Ann,Io,Int.zero_add,Int.zero_add,F3,F3 (a:Int)]
theorem Auy {x d:Int} (h0:0<=x) (h1:x<10000) (h2:0<=d) (h3:d<10000):0<=x*d/\x*d<=99980001:=by
 have a:=Oi h0 h2;have b:=Int.mul_le_mul (a:=x) (b:=d) (c:=9999) (d:=9999) aA aA h2 aA;omega
theorem Dg.step {a d z i:Nat} {c x n:Int} {out:List Int} (h:Dg a d z i c out) (hd:d<10000) (hx:nth (dig a) i=some x) (hn:n=c+x*d) :
  Dg a d z (i+1) (n.tdiv 10000) (out++[n.tmod 10000])/\0<=n/\n<=99990000:=by
 have hxk:=B5 (Bd a) hx;have hm:=Auy hxk.1 hxk.2 (O0 d) aA;have h3:=h.c0;have e1:n.tdiv 10000=n / 10000:=C8 aA;have e2:n.tmod 10000=n % 10000:=Ic aA;refine ⟨⟨by simp [h.len]; omega,R4 h.ok aA aA,aA,?_⟩,aA,aA⟩;have hv:=h.eqv;rw [Au hx,val] at hv;have e3:(d:Int)*(x+10000*val ((dig a).drop (i+1)))=x*d+10000*(d*val ((dig a).drop (i+1))):=by
  rw [Ir,F3 (d:Int) x,<- Ia,F3 (d:Int) 10000,Ia]
 rw [e3] at hv;have:n.tmod 10000+10000*(n.tdiv 10000+d*val ((dig a).drop (i+1)))=c+(x*d+10000*(d*val ((dig a).drop (i+1)))):=aA
 rw [Td,h.len,gR,<- fW,Mk,this];exact hv
theorem Dg.done {a d z i:Nat} {c:Int} {out:List Int} (h:Dg a d z i c out) (hi:(dig a).length<=i) (hc:c=0):Df out=dig (a*d*10000 ^ z):=by
 have hv:=h.eqv;rw [Fx hi,val,hc] at hv;rw [Dw h.ok];congr 1;have e:(10000:Int) ^ (z+i)*(0+d*0)=0:=by rw [Sa,O2,Sa]
 rw [e] at hv;omega
end
section
open Go
end
section
open Go
end
section
open Go
theorem Rz {n d:Int} (hd:d≠0):(lowN n d).natAbs.gcd (lowD n d).natAbs=1:=by
 rw [U0,show (lowD n d).natAbs=d.natAbs / n.natAbs.gcd d.natAbs from rfl];have hg:0<n.natAbs.gcd d.natAbs:=I6 _ aA;rw [Nat.gcd_div (Nat.gcd_dvd_left _ _) (Nat.gcd_dvd_right _ _)];exact Nat.div_self hg
theorem Pk {n d:Int} (hd:d≠0):0<lowD n d:=by
 have hg:0<n.natAbs.gcd d.natAbs:=I6 _ aA;have h2:n.natAbs.gcd d.natAbs<=d.natAbs:=Sy _ aA;have:=Nat.div_pos h2 hg;unfold lowD; omega
theorem Lg {n d:Int} (hd:d≠0):lowN n d*d=n*lowD n d:=by
 have hg:0<n.natAbs.gcd d.natAbs:=I6 _ aA;obtain ⟨g,hgd⟩:∃ g:Nat,g=n.natAbs.gcd d.natAbs:=⟨_,rfl⟩;have h1:(g:Int) ∣ n:=by rw [hgd]; exact Int.ofNat_dvd_left.2 (Nat.gcd_dvd_left _ _)
 have h2:(g:Int) ∣ d:=by rw [hgd]; exact Int.ofNat_dvd_left.2 (Nat.gcd_dvd_right _ _)
 obtain ⟨a,ha⟩:=h1;obtain ⟨b,hb⟩:=h2;have j8:(g:Int)≠0:=aA
 have hN:lowN n d=if d<0 then -a else a:=by
  unfold lowN;rw [<- hgd];split
  ·rw [ha,Int.neg_tdiv,Int.mul_tdiv_cancel_left _ j8]
  ·rw [ha,Int.mul_tdiv_cancel_left _ j8]
 have hD:lowD n d=if d<0 then -b else b:=by
  unfold lowD;rw [<- hgd];have:d.natAbs=g*b.natAbs:=by rw [hb,Ib]; simp
  rw [this,Nat.mul_div_cancel_left _ aA];have hs:d<0↔b<0:=by
   rw [hb];constructor
   ·intro h;rcases Int.lt_or_le b 0 with h'|h'
    ·exact h'
    ·have:=Oi (show (0:Int)<=g by omega) h'; omega
   ·intro h;exact Int.mul_neg_of_pos_of_neg aA h
  split <;> omega
 rw [hN,hD];generalize (g:Int)=G at *;subst ha hb;split
 ·rw [O4,Int.mul_neg,<- Ia,F3 a G]
 ·rw [<- Ia,F3 a G]
theorem Pl {a b c d:Int} (hb:0<b) (hd:0<d) (h1:a.natAbs.gcd b.natAbs=1) (h2:c.natAbs.gcd d.natAbs=1) (h:a*d=c*b):a=c/\b=d:=by
 have e:=congrArg kF h;rw [Ib,Ib] at e;have k1:d.natAbs ∣ b.natAbs:=(jK.dvd_of_dvd_mul_left (jK.symm h2) ⟨a.natAbs,by rw [<- e,Ip]⟩);have k2:b.natAbs ∣ d.natAbs:=(jK.dvd_of_dvd_mul_left (jK.symm h1) ⟨c.natAbs,by rw [e,Ip]⟩);have rt:b.natAbs=d.natAbs:=Nat.dvd_antisymm k2 k1;have a3c:b=d:=aA
 subst a3c;exact ⟨Int.eq_of_mul_eq_mul_right aA h,rfl⟩
theorem Jv.low {n d:Int} (h:Jv n d):lowN n d=n/\lowD n d=d:=by
 have hd:=h.pos;exact Pl (Pk aA) hd (Rz aA) h.cop (Lg aA)
theorem Axl {n d n' d':Int} (hd:d≠0) (dm:d'≠0) (h:n*d'=n'*d):lowN n d=lowN n' d'/\lowD n d=lowD n' d':=by
 refine Pl (Pk hd) (Pk dm) (Rz hd) (Rz dm) ?_;have h1:=Lg (n:=n) hd;have h2:=Lg (n:=n') dm;have h3:(lowN n d*lowD n' d')*(d*d')=(lowN n' d'*lowD n d)*(d*d'):=by
  generalize lowN n d=a at *;generalize lowD n d=b at *;generalize lowN n' d'=a' at *;generalize lowD n' d'=b' at *;have e1:(a*b')*(d*d')=(n*d')*(b*b'):=by
   have:(a*b')*(d*d')=(a*d)*(b'*d'):=aM
   rw [this,h1]; grind
  have e2:(a'*b)*(d*d')=(n'*d)*(b*b'):=by
   have:(a'*b)*(d*d')=(a'*d')*(b*d):=aM
   rw [this,h2]; grind
  rw [e1,e2,h]
 exact Int.eq_of_mul_eq_mul_right (I3 hd dm) h3
theorem Auk {n d n' d':Int} (hd:d≠0) (dm:d'≠0) (h:n*d'=n'*d):Gx n d=Gx n' d'/\resN n d=resN n' d'/\resD n d=resD n' d':=by
 obtain ⟨h1,h2⟩:=Axl hd dm h;have hf:Gx n d=Gx n' d':=by
  unfold Gx;rw [h1,h2];simp [hd,dm]
 exact ⟨hf,by unfold resN; rw [hf,h1],by unfold resD; rw [hf,h2]⟩
theorem Ad6 {n d:Int} (h:Gx n d=true):d≠0:=by
 unfold Gx at h;simp at h;exact h.1.1
theorem Ag9 {n d:Int} (h:Gx n d=true):Jv (resN n d) (resD n d):=by
 have hd:=Ad6 h;unfold resN resD;rw [h];simp only [if_true];refine ⟨Pk hd,Rz hd,?_,?_⟩
 ·unfold Gx okZ at h; simp at h; exact h.1.2
 ·unfold Gx okZ at h; simp at h; exact h.2
theorem Anv {n d:Int} (h:Gx n d=true):resN n d*d=n*resD n d:=by
 have hd:=Ad6 h;unfold resN resD;rw [h];exact Lg hd
theorem Jv.fits {n d:Int} (h:Jv n d):Gx n d=true/\resN n d=n/\resD n d=d:=by
 obtain ⟨h1,h2⟩:=h.low;have hf:Gx n d=true:=by
  unfold Gx okZ;rw [h1,h2];have:=h.pos;simp only [Ci,Gb,decide_eq_false_iff_not,decide_eq_true_eq];have h8:=h.ln;have h9:=h.ld;exact ⟨⟨aA,aA⟩,aA⟩
 exact ⟨hf,by unfold resN; rw [hf,h1]; rfl,by unfold resD; rw [hf,h2]; rfl⟩
theorem Arq {n d:Int} (h:Gx n d=false):resN n d=0/\resD n d=0:=by
 unfold resN resD; rw [h];exact Ya32
abbrev Q:=Int × Int
structure Fld where
 whole:Int->Q × Bool
 minus:Q->Q->Q × Bool
 times:Q->Q->Q × Bool
 over:Q->Q->Q × Bool
 ok:Q->Prop
 rat:Q->Q
 stop:Bool
def sgn (a:Q):Int:=if a.1<0 then -1 else if 0<a.1 then 1 else 0
def bigF (n d:Int):Bool:=decide (n<=-2147483648) || decide (n >= 2147483648) || decide (d >= 2147483648) || decide (d=0)
def qn (n d:Int):Q × Bool:=if bigF (lowN n d) (lowD n d)=true then ((0,1),true) else ((lowN n d,lowD n d),false)
def okS (a:Q):Prop:=-2147483648<a.1/\a.1<2147483648/\0<a.2/\a.2<2147483648
def QQ.qF:Fld where
 whole n:=if n<=-2147483648\/n >= 2147483648 then ((0,1),true) else ((n,1),false)
 minus a b:=qn (a.1*b.2 - b.1*a.2) (a.2*b.2)
 times a b:=qn (a.1*b.1) (a.2*b.2)
 over a b:=if b.1=0 then ((0,1),true) else qn (a.1*b.2) (a.2*b.1)
 ok:=okS
 rat a:=(resN a.1 a.2,resD a.1 a.2)
 stop:=true
def wn (n d:Int):Q × Bool:=((resN n d,resD n d),!Gx n d)
def qz (a:Q):Q:=if a.2=0 then (0,1) else a
def okW (a:Q):Prop:=Jv a.1 a.2\/a=(0,0)
def WW.qF:Fld where
 whole n:=((n,1),false)
 minus a b:=wn ((qz a).1*(qz b).2+-(qz b).1*(qz a).2) ((qz a).2*(qz b).2)
 times a b:=wn ((qz a).1*(qz b).1) ((qz a).2*(qz b).2)
 over a b:=wn ((qz a).1*(qz b).2) ((qz a).2*(qz b).1)
 ok:=okW
 rat a:=a
 stop:=false
theorem Abo:Jv 0 1:=⟨aK,rfl,aR,aR⟩
theorem Aya {n d:Int} (h:Jv n d):qz (n,d)=(n,d):=by
 have:=h.pos;unfold qz; rw [if_neg aV]
theorem qz_n {a:Q} (h:okW a):nQ (decide (a.1<0)) (dig a.1.natAbs) (decide (a.2<0)) (dig a.2.natAbs)=(qz a).1/\dQ (decide (a.1<0)) (dig a.1.natAbs) (decide (a.2<0)) (dig a.2.natAbs)=(qz a).2:=by
 rcases h with h|rfl
 ·obtain ⟨n,d⟩:=a;rw [Aya h];exact ⟨h.nQ,h.dQ⟩
 ·refine ⟨?_,?_⟩ <;> decide +kernel
theorem Nm {a:Q} (h:okW a):(dig a.1.natAbs).length<=200/\(dig a.2.natAbs).length<=200:=by
 rcases h with h|rfl
 ·exact ⟨h.ln,h.ld⟩
 ·refine ⟨?_,?_⟩ <;> decide +kernel
theorem Aye {a:Q} (h:okW a):sgn (qz a)=sgn a:=by
 rcases h with h|rfl
 ·obtain ⟨n,d⟩:=a;rw [Aya h]
 ·rfl
theorem Avx (n d:Int):okW (wn n d).1:=by
 unfold wn;cases h:Gx n d with
 | true=>exact .inl (Ag9 h)
 | false=>obtain ⟨h1,h2⟩:=Arq h; rw [h1,h2]; exact .inr rfl
theorem Aiq (n d:Int):0<=lowD n d:=O0 _
theorem Arj (n d:Int):okS (qn n d).1:=by
 unfold qn bigF;split
 ·exact ⟨aK,aK,aK,aK⟩
 ·rename_i h;simp only [Ht,decide_eq_true_eq] at h;have:=Aiq n d;refine ⟨?_,?_,?_,?_⟩ <;> simp only <;> omega
structure Fld.Keeps (F:Fld):Prop where
 whole:∀ n,i64 n->F.ok (F.whole n).1
 minus:∀ a b,F.ok a->F.ok b->F.ok (F.minus a b).1
 times:∀ a b,F.ok a->F.ok b->F.ok (F.times a b).1
 over:∀ a b,F.ok a->F.ok b->F.ok (F.over a b).1
theorem QQ.Dk:QQ.qF.Keeps:=by
 refine ⟨fun n _=>?_,fun a b _ _=>Arj _ _,fun a b _ _=>Arj _ _,fun a b _ _=>?_⟩
 ·simp only [QQ.qF];split
  ·exact ⟨aK,aK,aK,aK⟩
  ·refine ⟨?_,?_,?_,?_⟩ <;> simp only <;> omega
 ·simp only [QQ.qF];split
  ·exact ⟨aK,aK,aK,aK⟩
  ·exact Arj _ _
theorem WW.Dk:WW.qF.Keeps:=by
 refine ⟨fun n hn=>.inl ?_,fun a b _ _=>Avx _ _,fun a b _ _=>Avx _ _,fun a b _ _=>Avx _ _⟩;simp only [WW.qF];have h1:(dig (1:Int).natAbs).length<=200:=aR
 refine ⟨by simp,by simp,?_,h1⟩;refine A9.2 ?_;unfold i64 at hn;exact Ya2o
end
section
open Go Tryz
set_option maxHeartbeats 4000000
set_option maxRecDepth 100000
def frA (a:Q):AV:=.agg [.int a.1,.int a.2]
def QQ.flS (S:List Ent) (iq eq:Nat) (b:Bool):List Ent:=bif b then put S iq ⟨eq,[.prim (.bool true)]⟩ else S
theorem Gk {S:List Ent} {iq eq:Nat} : QQ.flS S iq eq false=S:=rfl
theorem A6 {S:List Ent} {iq eq:Nat} : QQ.flS S iq eq true=put S iq ⟨eq,[.prim (.bool true)]⟩:=rfl
theorem QQ.Bi {S:List Ent} {iq eq:Nat} {b:Bool} : (QQ.flS S iq eq b).length=S.length:=by
 cases b
 ·rfl
 ·exact Am
theorem A1 {S:List Ent} {iq eq j:Nat} {b:Bool} (h:j≠iq):nth (QQ.flS S iq eq b) j=nth S j:=by
 cases b
 ·rfl
 ·exact Af h.symm
theorem Ba {S:List Ent} {i e:Nat} {cs:List AV} (h:entAt S i e=some cs):i<S.length:=by
 obtain ⟨x,h1,-⟩:=Ds h;exact A8 h1
theorem Dt {α:Type} {l:List α} {i:Nat} {v:α} (h:i<l.length):nth (put l i v) i=some v:=by
 induction l generalizing i with
 | nil=>simp at h
 | cons x l ih=>cases i with
  | zero=>rfl
  | succ i=>exact ih aI
theorem Ai {S:List Ent} {i e:Nat} {cs:List AV} (h:i<S.length):entAt (put S i ⟨e,cs⟩) i e=some cs:=by
 simp [entAt,Dt h]
theorem Ah {S:List Ent} {i j e:Nat} {x:Ent} (h:i≠j):entAt (put S i x) j e=entAt S j e:=by
 simp [entAt,Af h]
theorem Ac {S S':List Ent} {j e:Nat} (h:nth S' j=nth S j):entAt S' j e=entAt S j e:=by simp [entAt,h]
theorem Alw {S:List Ent} {iq eq:Nat} {b c:Bool} (h:entAt S iq eq=some [.prim (.bool b)]):entAt (QQ.flS S iq eq c) iq eq=some [.prim (.bool (b || c))]:=by
 cases c
 ·rw [Gk,Fs]; exact h
 ·rw [A6,Ai (Ba h),jS]
theorem Axc {S:List Ent} {iq eq:Nat} {b c:Bool} (h:entAt S iq eq=some [.prim (.bool b)]):gO S (QQ.flS S iq eq c)=some ():=by
 refine Al5 ⟨QQ.Bi,fun j=>?_⟩;by_cases e:j=iq
 ·subst e;obtain ⟨x,h1,h2,h3⟩:=Ds h;obtain ⟨ep,cs⟩:=x;simp only at h2 h3;subst h2 h3;cases c
  ·exact .inl rfl
  ·exact .inr ⟨_,b,true,h1,Dt (A8 h1)⟩
 ·exact .inl (A1 e)
theorem Ad {S:List Ent} {L:List Ent} {i e:Nat} {cs:List AV} (h:entAt S i e=some cs):entAt (S++L) i e=some cs:=by
 have hl:=Ba h;unfold entAt at h ⊢;rw [Ae] at h ⊢;rw [Cu hl]; exact h
theorem Du {S L:List Ent} {i:Nat} {x:Ent} (h:i<S.length):put (S++L) i x=put S i x++L:=by
 induction S generalizing i with
 | nil=>simp at h
 | cons y S ih=>cases i with
  | zero=>rfl
  | succ i=>simp only [Cp,put,ih aI]
theorem Yr {S L:List Ent} {iq eq:Nat} {b:Bool} (h:iq<S.length):QQ.flS (S++L) iq eq b=QQ.flS S iq eq b++L:=by
 cases b
 ·rfl
 ·exact Du h
theorem H3 {S L:List Ent} : (S++L).take S.length=S:=by simp
theorem Al {S:List Ent} {n k:Nat} {cs:List AV} (h:S.length=n):entAt (S++[⟨k,cs⟩]) n k=some cs:=by subst h; exact B8
theorem Dp {S:List Ent} {n:Nat} {e e':Ent} (h:S.length=n):put (S++[e]) n e'=S++[e']:=by subst h; exact put_new
theorem Kb {S L:List Ent} {n:Nat} (h:S.length=n):(S++L).take n=S:=by subst h; exact H3
theorem Dr (x:Int) (g:Nat):(x.tdiv g).natAbs<=x.natAbs:=by
 rw [jM]; exact Ob _ _
theorem Ari (n d:Int) (hn:n.natAbs<9223372036854775808) (hd:d.natAbs<9223372036854775808) (g:Nat) (hg:g=n.natAbs.gcd d.natAbs) (N:Int) (D:Nat) (hN:N=if d<0 then -n else n) (hD:D=d.natAbs) :
  lowN n d=(if 1<g then N.tdiv (g:Int) else N)/\lowD n d=(if 1<g then (D:Int).tdiv (g:Int) else (D:Int)):=by
 subst hN hD;have hNn:(if d<0 then -n else n).natAbs=n.natAbs:=eA
 unfold lowN lowD;rw [<- hg];by_cases h1:1<g
 ·rw [if_pos h1,if_pos h1];exact ⟨rfl,by rw [C8 aA]; rfl⟩
 ·rw [if_neg h1,if_neg h1];rcases Ie 0 g with h0|h0
  ·have:g=1:=aA
   subst this;exact ⟨by simp,by simp⟩
  ·have zt:g=0:=aA
   rw [zt] at hg;have ha:=Nat.gcd_eq_zero_iff.1 hg.symm;have gy:n=0:=aA
   have dq:d=0:=aA
   subst gy; subst dq;exact ⟨by simp,by simp⟩
section
variable (S:List Ent) (tk:List Nat) (k iq eq:Nat) (b:Bool)
theorem Lo (n d:Int) (hn:n.natAbs<9223372036854775808) (hd:d.natAbs<9223372036854775808) (hq:entAt S iq eq=some [.prim (.bool b)]):cL prog 223 [.ref iq eq 0,.int n,.int d] S tk k=some (frA (qn n d).1,QQ.flS S iq eq (qn n d).2,tk,k+1):=by
 have bh:=Ba hq;have ca:entAt (S++[⟨k,[.prim (.int .i64 0),.prim (.int .i64 0)]⟩]) iq eq=some [.prim (.bool b)]:=Ad hq;refine opS func223 ntmps223 ?_;obtain ⟨N,hN⟩:∃ N,N=if d<0 then -n else n:=⟨_,rfl⟩
 obtain ⟨D,hD⟩:∃ D:Nat,D=d.natAbs:=⟨_,rfl⟩;obtain ⟨g,hg⟩:∃ g:Nat,g=n.natAbs.gcd d.natAbs:=⟨_,rfl⟩;have hNn:N.natAbs=n.natAbs:=by subst hN; split <;> omega
 obtain ⟨f1,f2⟩:=Ari n d hn hd g hg N D hN hD;obtain ⟨r,hr⟩:∃ r,r=qn n d:=⟨_,rfl⟩;have ab:=hr;unfold qn bigF at ab;rw [f1,f2] at ab;rw [<- hr];have dv:(put S iq ⟨eq,[.prim (.bool true)]⟩).length=S.length:=Am;have hE cs:=Al (k:=k) (cs:=cs) dv;have hP e e':=Dp (e:=e) (e':=e') dv;have hT L:=Kb (L:=L) dv;have hA L x:=Du (L:=L) (x:=x) bh;by_cases hneg:d<0
 ·have d1:decide (d<0)=true:=bV
  have w1':Ce.wrap (0 - n)=N:=by rw [hN,if_pos hneg,Aa aD]; omega
  have w2':Ce.wrap (0 - d)=((D:Nat):Int):=by rw [hD,Aa aD]; omega
  by_cases gy:N<0
  ·have d2:decide (N<0)=true:=dL
   have w3':Ce.wrap (0 - N)=((N.natAbs:Nat):Int):=aP
   simp (maxSteps:=10^6)+contextual(disch:=try exact dqd)only[evs0,simprocAttr,Cc,Ca,Cd,results223,d1,w1',w2',d2,w3'];refine Pj (P:=prog) (fun x st=>st.T.length=56/\(x.1.gcd x.2=g)/\(x.1<9223372036854775808)/\(x.2<9223372036854775808)/\getT st.T 0=.ref iq eq 0/\getT st.T 1=.int N/\getT st.T 2=.int (D:Nat)/\getT st.T 6=.ref S.length k 0/\getT st.T 7=.int (x.1:Nat)/\getT st.T 8=.int (x.2:Nat)/\st.S=S++[⟨k,[.int 0,.int 0]⟩]/\st.tk=tk/\st.n=k+1) (fun x=>x.2) (fun x=>(frA r.1,QQ.flS S iq eq r.2,tk,k+1)) (N.natAbs,D) ?_ ?_;case refine_2=>exact ⟨rfl,fO,aA,aA,rfl,rfl,rfl,rfl,rfl,rfl,rfl,rfl,rfl⟩
   rintro ⟨x,y⟩ ⟨T,S',tk',n'⟩ ⟨hl,ot,hx,hy,e0,e1,e2,e6,e7,e8,eS,eT,eN⟩ IH;simp only at ot hx hy e0 e1 e2 e6 e7 e8 eS eT eN;subst eS eT eN;obtain ⟨g,hg,hT⟩:=Ao hl;rw [hg] at e0 e1 e2 e6 e7 e8;subst hT;clear hg hl;by_cases h0:y=0
   ·subst h0;have c1:(((0:Nat):Int) != 0)=false:=rfl;rw [Oz] at ot;subst ot;by_cases h1:1<x
    ·rw [if_pos h1,if_pos h1] at ab;have c2:decide ((x:Int) > 1)=true:=aC
     have hz:¬ ((x:Int)=0):=aA
     have v1:=Dr N x;have v2:=Dr (D:Int) x;have w5:Ce.wrap (N.tdiv (x:Int))=N.tdiv (x:Int):=Aa aD;have w6:Ce.wrap ((D:Int).tdiv (x:Int))=(D:Int).tdiv (x:Int):=Aa aD;by_cases b1:N.tdiv (x:Int)<=-2147483648
     ·have k1:decide (N.tdiv (x:Int)<=-2147483648)=true:=bA
      exact Yad
     have k1:decide (N.tdiv (x:Int)<=-2147483648)=false:=bA
     by_cases b2:N.tdiv (x:Int) >= 2147483648
     ·have k2:decide (N.tdiv (x:Int) >= 2147483648)=true:=bC
      exact Yac
     have k2:decide (N.tdiv (x:Int) >= 2147483648)=false:=bC
     exact Ya1
    ·rw [if_neg h1,if_neg h1] at ab;have c2:decide ((x:Int) > 1)=false:=aC
     by_cases b1:N<=-2147483648
     ·have k1:decide (N<=-2147483648)=true:=bA
      exact Yaf
     have k1:decide (N<=-2147483648)=false:=bA
     by_cases b2:N >= 2147483648
     ·have k2:decide (N >= 2147483648)=true:=bC
      exact Yae
     have k2:decide (N >= 2147483648)=false:=bC
     exact Ya2
   ·exact Ya7
  ·have d2:decide (N<0)=false:=dL
   simp (maxSteps:=10^6)+contextual(disch:=try exact dqd)only[evs0,simprocAttr,Cc,Ca,Cd,results223,d1,w1',w2',d2];obtain ⟨M,hM⟩:∃ M:Nat,N=M:=⟨N.natAbs,aA⟩;exact Ya0
 ·have d1:decide (d<0)=false:=bV
  have a3d:n=N:=by rw [hN,if_neg hneg]
  have hDd:d=(D:Int):=aA
  subst a3d;subst hDd;by_cases gy:n<0
  ·have d2:decide (n<0)=true:=dL
   have w3':Ce.wrap (0 - n)=((n.natAbs:Nat):Int):=aP
   simp (maxSteps:=10^6)+contextual(disch:=try exact dqd)only[evs0,simprocAttr,Cc,Ca,Cd,results223,d1,d2,w3'];refine Pj (P:=prog) (fun x st=>st.T.length=56/\(x.1.gcd x.2=g)/\(x.1<9223372036854775808)/\(x.2<9223372036854775808)/\getT st.T 0=.ref iq eq 0/\getT st.T 1=.int n/\getT st.T 2=.int (D:Nat)/\getT st.T 6=.ref S.length k 0/\getT st.T 7=.int (x.1:Nat)/\getT st.T 8=.int (x.2:Nat)/\st.S=S++[⟨k,[.int 0,.int 0]⟩]/\st.tk=tk/\st.n=k+1) (fun x=>x.2) (fun x=>(frA r.1,QQ.flS S iq eq r.2,tk,k+1)) (n.natAbs,D) ?_ ?_;case refine_2=>exact ⟨rfl,fO,aA,aA,rfl,rfl,rfl,rfl,rfl,rfl,rfl,rfl,rfl⟩
   rintro ⟨x,y⟩ ⟨T,S',tk',n'⟩ ⟨hl,ot,hx,hy,e0,e1,e2,e6,e7,e8,eS,eT,eN⟩ IH;simp only at ot hx hy e0 e1 e2 e6 e7 e8 eS eT eN;subst eS eT eN;obtain ⟨g,hg,hT⟩:=Ao hl;rw [hg] at e0 e1 e2 e6 e7 e8;subst hT;clear hg hl;by_cases h0:y=0
   ·subst h0;have c1:(((0:Nat):Int) != 0)=false:=rfl;rw [Oz] at ot;subst ot;by_cases h1:1<x
    ·rw [if_pos h1,if_pos h1] at ab;have c2:decide ((x:Int) > 1)=true:=aC
     have hz:¬ ((x:Int)=0):=aA
     have v1:=Dr n x;have v2:=Dr (D:Int) x;have w5:Ce.wrap (n.tdiv (x:Int))=n.tdiv (x:Int):=Aa aD;have w6:Ce.wrap ((D:Int).tdiv (x:Int))=(D:Int).tdiv (x:Int):=Aa aD;by_cases b1:n.tdiv (x:Int)<=-2147483648
     ·have k1:decide (n.tdiv (x:Int)<=-2147483648)=true:=bA
      exact Yad
     have k1:decide (n.tdiv (x:Int)<=-2147483648)=false:=bA
     by_cases b2:n.tdiv (x:Int) >= 2147483648
     ·have k2:decide (n.tdiv (x:Int) >= 2147483648)=true:=bC
      exact Yac
     have k2:decide (n.tdiv (x:Int) >= 2147483648)=false:=bC
     exact Ya1
    ·rw [if_neg h1,if_neg h1] at ab;have c2:decide ((x:Int) > 1)=false:=aC
     by_cases b1:n<=-2147483648
     ·have k1:decide (n<=-2147483648)=true:=bA
      exact Yaf
     have k1:decide (n<=-2147483648)=false:=bA
     by_cases b2:n >= 2147483648
     ·have k2:decide (n >= 2147483648)=true:=bC
      exact Yae
     have k2:decide (n >= 2147483648)=false:=bC
     exact Ya2
   ·exact Ya7
  ·have d2:decide (n<0)=false:=dL
   simp (maxSteps:=10^6)+contextual(disch:=try exact dqd)only[evs0,simprocAttr,Cc,Ca,Cd,results223,d1,d2];obtain ⟨M,hM⟩:∃ M:Nat,n=M:=⟨n.natAbs,aA⟩;exact Ya0
end
end
section
open Go Tryz
theorem No {a b:Int} (ha:a.natAbs<2147483648) (hb:b.natAbs<2147483648):(a*b).natAbs<4611686018427387904:=by
 rw [Ib];exact Nat.mul_lt_mul'' ha hb
theorem Nl {a:Q} (h:okS a):a.1.natAbs<2147483648/\a.2.natAbs<2147483648:=by
 obtain ⟨h1,h2,h3,h4⟩:=h;omega
theorem new3a {S:List Ent} {e2 e3:Ent} {k:Nat} {c:List AV} : entAt (S++[⟨k,c⟩]++[e2]++[e3]) S.length k=some c:=Ad (Ad B8)
theorem new3b {S:List Ent} {e1 e3:Ent} {k:Nat} {c:List AV} : entAt (S++[e1]++[⟨k,c⟩]++[e3]) (S++[e1]).length k=some c:=Ad B8
theorem new3c {S S':List Ent} {e1 e2 x1 x2:Ent} {k:Nat} {c:List AV} (h:S'.length=S.length):entAt (S'++[e1]++[e2]++[⟨k,c⟩]) (S++[x1]++[x2]).length k=some c:=Al cB
theorem put3c {S S':List Ent} {e1 e2 x1 x2 e e':Ent} (h:S'.length=S.length):put (S'++[e1]++[e2]++[e]) (S++[x1]++[x2]).length e'=S'++[e1]++[e2]++[e']:=Dp cB
theorem take3 {S S':List Ent} {e1 e2 e3:Ent} (h:S'.length=S.length):(S'++[e1]++[e2]++[e3]).take S.length=S':=by rw [<- h]; simp
theorem flS3 {S:List Ent} {e1 e2 e3:Ent} {iq eq:Nat} {b:Bool} (h:iq<S.length):QQ.flS (S++[e1]++[e2]++[e3]) iq eq b=QQ.flS S iq eq b++[e1]++[e2]++[e3]:=by
 rw [Yr aC,Yr aC,Yr h]
theorem new1a {S:List Ent} {k:Nat} {c:List AV} : entAt (S++[⟨k,c⟩]) S.length k=some c:=B8
section
variable (S:List Ent) (tk:List Nat) (k iq eq:Nat) (fl:Bool)
theorem Aer (a b:Q) (ha:okS a) (hb:okS b) (hq:entAt S iq eq=some [.prim (.bool fl)]):cL prog 217 [.ref iq eq 0,frA a,frA b] S tk k=some (frA (QQ.qF.minus a b).1,QQ.flS S iq eq (QQ.qF.minus a b).2,tk,k+4):=by
 obtain ⟨q8,ni⟩:=Nl ha;obtain ⟨hb1,hb2⟩:=Nl hb;obtain ⟨an,ad⟩:=a;obtain ⟨bn,bd⟩:=b;simp only at q8 ni hb1 hb2;have p1:=No q8 hb2;have p2:=No hb1 ni;have p3:=No ni hb2;have p4:=No q8 hb1;have p5:=No ni hb1;have v1:Ce.wrap (an*bd)=an*bd:=Aa aD;have v2:Ce.wrap (bn*ad)=bn*ad:=Aa aD;have v3:Ce.wrap (ad*bd)=ad*bd:=Aa aD;have v4:Ce.wrap (an*bn)=an*bn:=Aa aD;have v5:Ce.wrap (ad*bn)=ad*bn:=Aa aD;have v6:Ce.wrap (an*bd - bn*ad)=an*bd - bn*ad:=Aa aD;have bh:=Ba hq;have hq3:entAt (S++[⟨k,[.int an,.int ad]⟩]++[⟨k+1,[.int bn,.int bd]⟩]++[⟨k+1+1,[.int 0,.int 0]⟩]) iq eq=some [.prim (.bool fl)]:=Ad (Ad (Ad hq));refine opS func217 ntmps217 ?_;have hN:=Lo _ tk (k+1+1+1) iq eq fl (an*bd - bn*ad) (ad*bd) aA aA hq3;rw [flS3 bh] at hN;have dv:=QQ.Bi (S:=S) (iq:=iq) (eq:=eq) (b:=(qn (an*bd - bn*ad) (ad*bd)).2);simp only [frA] at hN;simp (maxSteps:=10^6)+contextual(disch:=try exact dqd)only[evs0,simprocAttr,Cc,Ca,Cd,results217,frA,v1,v2,v3,v6,hN,new3a,new3b,new3c dv,put3c dv,take3 dv,QQ.qF]
theorem Aes (a b:Q) (ha:okS a) (hb:okS b) (hq:entAt S iq eq=some [.prim (.bool fl)]):cL prog 221 [.ref iq eq 0,frA a,frA b] S tk k=some (frA (QQ.qF.times a b).1,QQ.flS S iq eq (QQ.qF.times a b).2,tk,k+4):=by
 obtain ⟨q8,ni⟩:=Nl ha;obtain ⟨hb1,hb2⟩:=Nl hb;obtain ⟨an,ad⟩:=a;obtain ⟨bn,bd⟩:=b;simp only at q8 ni hb1 hb2;have p1:=No q8 hb2;have p2:=No hb1 ni;have p3:=No ni hb2;have p4:=No q8 hb1;have p5:=No ni hb1;have v1:Ce.wrap (an*bd)=an*bd:=Aa aD;have v2:Ce.wrap (bn*ad)=bn*ad:=Aa aD;have v3:Ce.wrap (ad*bd)=ad*bd:=Aa aD;have v4:Ce.wrap (an*bn)=an*bn:=Aa aD;have v5:Ce.wrap (ad*bn)=ad*bn:=Aa aD;have v6:Ce.wrap (an*bd - bn*ad)=an*bd - bn*ad:=Aa aD;have bh:=Ba hq;have hq3:entAt (S++[⟨k,[.int an,.int ad]⟩]++[⟨k+1,[.int bn,.int bd]⟩]++[⟨k+1+1,[.int 0,.int 0]⟩]) iq eq=some [.prim (.bool fl)]:=Ad (Ad (Ad hq));refine opS func221 ntmps221 ?_;have hN:=Lo _ tk (k+1+1+1) iq eq fl (an*bn) (ad*bd) aA aA hq3;rw [flS3 bh] at hN;have dv:=QQ.Bi (S:=S) (iq:=iq) (eq:=eq) (b:=(qn (an*bn) (ad*bd)).2);simp only [frA] at hN;simp (maxSteps:=10^6)+contextual(disch:=try exact dqd)only[evs0,simprocAttr,Cc,Ca,Cd,results221,frA,v3,v4,hN,new3a,new3b,new3c dv,put3c dv,take3 dv,QQ.qF]
def QQ.Abs (b:Q):Nat:=if b.1=0 then 3 else 4
theorem Ai1 (a b:Q) (ha:okS a) (hb:okS b) (hq:entAt S iq eq=some [.prim (.bool fl)]):cL prog 218 [.ref iq eq 0,frA a,frA b] S tk k=some (frA (QQ.qF.over a b).1,QQ.flS S iq eq (QQ.qF.over a b).2,tk,k+QQ.Abs b):=by
 obtain ⟨q8,ni⟩:=Nl ha;obtain ⟨hb1,hb2⟩:=Nl hb;obtain ⟨an,ad⟩:=a;obtain ⟨bn,bd⟩:=b;simp only at q8 ni hb1 hb2;have p1:=No q8 hb2;have p2:=No hb1 ni;have p3:=No ni hb2;have p4:=No q8 hb1;have p5:=No ni hb1;have v1:Ce.wrap (an*bd)=an*bd:=Aa aD;have v2:Ce.wrap (bn*ad)=bn*ad:=Aa aD;have v3:Ce.wrap (ad*bd)=ad*bd:=Aa aD;have v4:Ce.wrap (an*bn)=an*bn:=Aa aD;have v5:Ce.wrap (ad*bn)=ad*bn:=Aa aD;have v6:Ce.wrap (an*bd - bn*ad)=an*bd - bn*ad:=Aa aD;have bh:=Ba hq;have hq3:entAt (S++[⟨k,[.int an,.int ad]⟩]++[⟨k+1,[.int bn,.int bd]⟩]++[⟨k+1+1,[.int 0,.int 0]⟩]) iq eq=some [.prim (.bool fl)]:=Ad (Ad (Ad hq));refine opS func218 ntmps218 ?_;by_cases hz:bn=0
 ·have d1:(bn == 0)=true:=cM
  have cq:QQ.qF.over (an,ad) (bn,bd)=((0,1),true):=by simp [QQ.qF,hz]
  have hko:QQ.Abs (bn,bd)=3:=by simp [QQ.Abs,hz]
  have d8:∀ e1 e2 e3,put (S++[e1]++[e2]++[e3]) iq ⟨eq,[.prim (.bool true)]⟩=QQ.flS S iq eq true++[e1]++[e2]++[e3]:=fun e1 e2 e3=>flS3 (b:=true) bh;have dv:=QQ.Bi (S:=S) (iq:=iq) (eq:=eq) (b:=true);rw [cq,hko];simp (maxSteps:=10^6)+contextual(disch:=try exact dqd)only[evs0,simprocAttr,Cc,Ca,Cd,results218,frA,d1,hq3,d8,new3a,new3b,new3c dv,put3c dv,take3 dv]
 ·have d1:(bn == 0)=false:=cM
  have cq:QQ.qF.over (an,ad) (bn,bd)=qn (an*bd) (ad*bn):=by simp [QQ.qF,hz]
  have hko:QQ.Abs (bn,bd)=4:=by simp [QQ.Abs,hz]
  have hN:=Lo _ tk (k+1+1+1) iq eq fl (an*bd) (ad*bn) aA aA hq3;rw [flS3 bh] at hN;have dv:=QQ.Bi (S:=S) (iq:=iq) (eq:=eq) (b:=(qn (an*bd) (ad*bn)).2);simp only [frA] at hN;rw [cq,hko];simp (maxSteps:=10^6)+contextual(disch:=try exact dqd)only[evs0,simprocAttr,Cc,Ca,Cd,results218,frA,d1,v1,v5,hN,new3a,new3b,new3c dv,put3c dv,take3 dv]
theorem Aet (n:Int) (hq:entAt S iq eq=some [.prim (.bool fl)]):cL prog 222 [.ref iq eq 0,.int n] S tk k=some (frA (QQ.qF.whole n).1,QQ.flS S iq eq (QQ.qF.whole n).2,tk,k+1):=by
 have bh:=Ba hq;have ca:entAt (S++[⟨k,[.int 0,.int 0]⟩]) iq eq=some [.prim (.bool fl)]:=Ad hq;have dv:(put S iq ⟨eq,[.prim (.bool true)]⟩).length=S.length:=Am;have hE cs:=Al (k:=k) (cs:=cs) dv;have hP e e':=Dp (e:=e) (e':=e') dv;have hT L:=Kb (L:=L) dv;have hA L x:=Du (L:=L) (x:=x) bh;refine opS func222 ntmps222 ?_;by_cases b1:n<=-2147483648
 ·have k1:decide (n<=-2147483648)=true:=bA
  have hr:QQ.qF.whole n=((0,1),true):=by simp [QQ.qF,b1]
  rw [hr];simp (maxSteps:=10^6)+contextual(disch:=try exact dqd)only[evs0,simprocAttr,Cc,Ca,Cd,results222,frA,A6,k1,ca,hE,hP,hT,hA]
 have k1:decide (n<=-2147483648)=false:=bA
 by_cases b2:n >= 2147483648
 ·have k2:decide (n >= 2147483648)=true:=bC
  have hr:QQ.qF.whole n=((0,1),true):=by simp only [QQ.qF]; rw [if_pos (.inr b2)]
  rw [hr];simp (maxSteps:=10^6)+contextual(disch:=try exact dqd)only[evs0,simprocAttr,Cc,Ca,Cd,results222,frA,A6,k1,k2,ca,hE,hP,hT,hA]
 have k2:decide (n >= 2147483648)=false:=bC
 have hr:QQ.qF.whole n=((n,1),false):=by simp only [QQ.qF]; rw [if_neg aA]
 rw [hr];simp (maxSteps:=10^6)+contextual(disch:=try exact dqd)only[evs0,simprocAttr,Cc,Ca,Cd,results222,frA,Gk,k1,k2,ca]
theorem Ai2 (a:Q) (hq:entAt S iq eq=some [.prim (.bool fl)]):cL prog 220 [.ref iq eq 0,frA a] S tk k=some (.int (sgn a),S,tk,k+1):=by
 obtain ⟨an,ad⟩:=a;refine opS func220 ntmps220 ?_;by_cases h1:an<0
 ·have k1:decide (an<0)=true:=aW
  have hr:sgn (an,ad)=-1:=by simp [sgn,h1]
  rw [hr];simp (maxSteps:=10^6)+contextual(disch:=try exact dqd)only[evs0,simprocAttr,Cc,Ca,Cd,results220,frA,k1,new1a,H3]
 have k1:decide (an<0)=false:=aW
 by_cases h2:an > 0
 ·have k2:decide (an > 0)=true:=bT
  have hr:sgn (an,ad)=1:=by simp only [sgn]; rw [if_neg h1,if_pos h2]
  exact Ya19
 have k2:decide (an > 0)=false:=bT
 have hr:sgn (an,ad)=0:=by simp only [sgn]; rw [if_neg h1,if_neg h2]
 exact Ya19
theorem Aeq (hq:entAt S iq eq=some [.prim (.bool fl)]):cL prog 216 [.ref iq eq 0] S tk k=some (.bool (!fl),S,tk,k):=by
 refine opS func216 ntmps216 ?_;simp (maxSteps:=10^6)+contextual(disch:=try exact dqd)only[evs0,simprocAttr,Cc,Ca,Cd,results216,hq]
theorem Of_z (n d:Int) (hn:(dig n.natAbs).length<=200) (hd:(dig d.natAbs).length<=200):cL prog 224 [zA n,zA d] S tk k=some (resQ n d,S,tk,k):=by
 have h:=Ayb S tk k (decide (n<0)) (dig n.natAbs) (decide (d<0)) (dig d.natAbs) aA aA;unfold ofQ at h;rw [V_of _ hn,V_of _ hd] at h;by_cases h0:D6 (decide (n<0)) (dig n.natAbs)=true
 ·rw [if_pos h0] at h; exact h
 ·exact absurd (P6 n hn) h0
theorem digS {n:Int} (h:n.natAbs<2147483648):(dig n.natAbs).length<=200:=by
 refine A9.2 ?_;exact Ya2o
theorem Wk (a:Q) (ha:okS a) (_:entAt S iq eq=some [.prim (.bool fl)]):cL prog 219 [.ref iq eq 0,frA a] S tk k=some (qA (resN a.1 a.2) (resD a.1 a.2),S,tk,k+3):=by
 obtain ⟨q8,ni⟩:=Nl ha;obtain ⟨an,ad⟩:=a;simp only at q8 ni;have h1 S tk k:=Mu S tk k an aD;have h2 S tk k:=Mu S tk k ad aD;have h3 S tk k:=Of_z S tk k an ad (digS q8) (digS ni);simp only [zA,bigA,digA] at h1 h2 h3;simp only [resQ,qA,ratA,digA] at h3 ⊢;refine opS func219 ntmps219 ?_;simp (maxSteps:=10^6)+contextual(disch:=try exact dqd)only[evs1,simprocAttr,Cc,Ca,Cd,results219,frA,digA,h1,h2,h3,new1a,H3];rw [take3 rfl]
end
def raA (a:Q):AV:=qA a.1 a.2
section
variable (S:List Ent) (tk:List Nat) (k:Nat)
theorem Ai9 (a b:Q) (ha:okW a) (hb:okW b):cL prog 243 [.agg [],raA a,raA b] S tk k=some (raA (WW.qF.minus a b).1,S,tk,k):=by
 obtain ⟨l1,l2⟩:=Nm ha;obtain ⟨l3,l4⟩:=Nm hb;obtain ⟨g1,g2⟩:=qz_n ha;obtain ⟨g3,g4⟩:=qz_n hb;obtain ⟨an,ad⟩:=a;obtain ⟨bn,bd⟩:=b;simp only at l1 l2 l3 l4 g1 g2 g3 g4;have hJ S tk k:=Arm S tk k (decide (an<0)) (dig an.natAbs) (decide (ad<0)) (dig ad.natAbs) (decide (bn<0)) (dig bn.natAbs) (decide (bd<0)) (dig bd.natAbs) aA aA aA aA;rw [g1,g2,g3,g4] at hJ;refine opP func243 ntmps243 (hp3:=rfl) ?_;simp only [resQ,raA,qA,ratA,digA] at hJ ⊢;simp (maxSteps:=10^6)+contextual(disch:=try exact dqd)only[ev1,simprocAttr,Cc,Ca,Cd,results243,raA,qA,ratA,digA,WW.qF,wn,hJ];exact ⟨rfl,rfl⟩
theorem Aja (a b:Q) (ha:okW a) (hb:okW b):cL prog 247 [.agg [],raA a,raA b] S tk k=some (raA (WW.qF.times a b).1,S,tk,k):=by
 obtain ⟨l1,l2⟩:=Nm ha;obtain ⟨l3,l4⟩:=Nm hb;obtain ⟨g1,g2⟩:=qz_n ha;obtain ⟨g3,g4⟩:=qz_n hb;obtain ⟨an,ad⟩:=a;obtain ⟨bn,bd⟩:=b;simp only at l1 l2 l3 l4 g1 g2 g3 g4;have hJ S tk k:=Avc S tk k (decide (an<0)) (dig an.natAbs) (decide (ad<0)) (dig ad.natAbs) (decide (bn<0)) (dig bn.natAbs) (decide (bd<0)) (dig bd.natAbs) aA aA aA aA;rw [g1,g2,g3,g4] at hJ;refine opP func247 ntmps247 (hp3:=rfl) ?_;simp only [resQ,raA,qA,ratA,digA] at hJ ⊢;simp (maxSteps:=10^6)+contextual(disch:=try exact dqd)only[ev1,simprocAttr,Cc,Ca,Cd,results247,raA,qA,ratA,digA,WW.qF,wn,hJ];exact ⟨rfl,rfl⟩
theorem Aoa (a b:Q) (ha:okW a) (hb:okW b):cL prog 244 [.agg [],raA a,raA b] S tk k=some (raA (WW.qF.over a b).1,S,tk,k):=by
 obtain ⟨l1,l2⟩:=Nm ha;obtain ⟨l3,l4⟩:=Nm hb;obtain ⟨g1,g2⟩:=qz_n ha;obtain ⟨g3,g4⟩:=qz_n hb;obtain ⟨an,ad⟩:=a;obtain ⟨bn,bd⟩:=b;simp only at l1 l2 l3 l4 g1 g2 g3 g4;have hJ S tk k:=Avb S tk k (decide (an<0)) (dig an.natAbs) (decide (ad<0)) (dig ad.natAbs) (decide (bn<0)) (dig bn.natAbs) (decide (bd<0)) (dig bd.natAbs) aA aA aA aA;rw [g1,g2,g3,g4] at hJ;refine opP func244 ntmps244 (hp3:=rfl) ?_;simp only [resQ,raA,qA,ratA,digA] at hJ ⊢;simp (maxSteps:=10^6)+contextual(disch:=try exact dqd)only[ev1,simprocAttr,Cc,Ca,Cd,results244,raA,qA,ratA,digA,WW.qF,wn,hJ];exact ⟨rfl,rfl⟩
theorem Ajb (n:Int) (hn:i64 n):cL prog 248 [.agg [],.int n] S tk k=some (raA (WW.qF.whole n).1,S,tk,k):=by
 have hJ S tk k:=Aeu S tk k n hn;refine opP func248 ntmps248 (hp3:=rfl) ?_;simp only [raA,qA,ratA,digA,WW.qF] at hJ ⊢;simp (maxSteps:=10^6)+contextual(disch:=try exact dqd)only[ev1,simprocAttr,Cc,Ca,Cd,results248,raA,qA,ratA,digA,WW.qF,hJ];first|rfl|exact ⟨rfl,rfl⟩
theorem Aob (a:Q) (ha:okW a):cL prog 246 [.agg [],raA a] S tk k=some (.int (sgn a),S,tk,k):=by
 have hI S tk k:=Aeu S tk k 0 aD;obtain ⟨l1,l2⟩:=Nm ha;obtain ⟨g1,g2⟩:=qz_n ha;have j7:=Aye ha;obtain ⟨an,ad⟩:=a;simp only at l1 l2 g1 g2;have g0:Jv 0 1:=Abo;have hJ S tk k:=Ava S tk k (decide (an<0)) (dig an.natAbs) (decide (ad<0)) (dig ad.natAbs) (decide ((0:Int)<0)) (dig (0:Int).natAbs) (decide ((1:Int)<0)) (dig (1:Int).natAbs) aA aA aR aR;rw [g1,g2,g0.nQ,g0.dQ] at hJ;have hs:cmpZ ((qz (an,ad)).1*1) (0*(qz (an,ad)).2)=sgn (an,ad):=by rw [<- j7]; simp only [cmpZ,sgn,Int.mul_one,Int.zero_mul]
 rw [hs] at hJ;refine opP func246 ntmps246 (hp3:=rfl) ?_;have z1:decide ((0:Int)<0)=false:=rfl;have z2:decide ((1:Int)<0)=false:=rfl;have z3:(0:Int).natAbs=0:=rfl;have z4:(1:Int).natAbs=1:=rfl;simp only [raA,qA,ratA,digA,z1,z2,z3,z4] at hI hJ ⊢;simp (maxSteps:=10^6)+contextual(disch:=try exact dqd)only[ev1,simprocAttr,Cc,Ca,Cd,results246,raA,qA,ratA,digA,hI,hJ]
theorem Zr (a:Q):cL prog 245 [.agg [],raA a] S tk k=some (raA a,S,tk,k):=by
 refine opP func245 ntmps245 (hp3:=rfl) ?_;simp (maxSteps:=10^6)+contextual(disch:=try exact dqd)only[ev1,simprocAttr,Cc,Ca,Cd,results245,raA,qA,ratA,digA]
theorem Ai8:cL prog 242 [.agg []] S tk k=some (.bool true,S,tk,k):=by
 refine opP func242 ntmps242 (hp3:=rfl) ?_;simp (maxSteps:=10^6)+contextual(disch:=try exact dqd)only[ev1,simprocAttr,Cc,Ca,Cd,results242]
end
end
section
open Go
section
variable {P:Program} {fn:Func} {k:List Kont}
abbrev Rs:=AV × List Ent × List Nat × Nat
def Gd (fin:Option (AV × St)->Option Rs) (Φ:Rs->Prop) (x:Option (AV × St)):Prop:=∃ r,fin x=some r/\Φ r
theorem Av6 {m:Nat} {Φ:Rs->Prop} {t:Bool} {a b:Option (AV × St)} {tg:Tag (a,b)} : Gd (finS m) Φ (BR (some t) a b tg)↔(t=true->Gd (finS m) Φ a)/\(t=false->Gd (finS m) Φ b):=by
 cases t <;> simp [BR,br]
theorem Av5 {Φ:Rs->Prop} {t:Bool} {a b:Option (AV × St)} {tg:Tag (a,b)} : Gd finM Φ (BR (some t) a b tg)↔(t=true->Gd finM Φ a)/\(t=false->Gd finM Φ b):=by
 cases t <;> simp [BR,br]
theorem Ao9 {m:Nat} {Φ:Rs->Prop} {r:AV} {s:St} : Gd (finS m) Φ (some (r,s))↔Φ (fz3 m s.S r,s.S.take m,s.tk,s.n):=by simp [Gd,finS]
theorem Ao8 {Φ:Rs->Prop} {r:AV} {s:St} : Gd finM Φ (some (r,s))↔Φ (r,s.S,s.tk,s.n):=by simp [Gd,finM]
theorem Gm [Globs] [Ext P] {ι:Type} {c:Code} {fin:Option (AV × St)->Option Rs} {Φ:Rs->Prop} {tg:Tag (Code.loop c,k)} (I:ι->St->Prop) (μ:ι->Nat) (x:ι)
  (h:∀ x st,I x st->(∀ y st',μ y<μ x->I y st'->Gd fin Φ (KX P fn (.loop c) st' k .mk))->Gd fin Φ (KX P fn c st (.loop c st.S.length :: k) .mk)) {st:St} (h0:I x st):Gd fin Φ (KX P fn (.loop c) st k tg):=by
 have key:∀ n x st,μ x=n->I x st->Gd fin Φ (KX P fn (.loop c) st k .mk):=by
  intro n;induction n using Sq with
  | _ n ih =>
   intro x st hn hI;show Gd fin Φ (RK P fn (.loop c) st k);exact Ya12
 exact key _ x st rfl h0
theorem Aap [Globs] [Ext P] {f : FuncId} {c : Code} (hf : P.funcs[f]? = some fn) (hx : (Ext.on P f || Ext.mv P f) = false) (hb : fn.body = some c) (ar : (fn.name == "runtime.NumGoroutine") = false) {args : List AV} {nt : Nat} (lj : fn.ntmps = nt) (hp : (args.map w2).all pure2 = false) {S : List Ent} {tk : List Nat} {n : Nat} {Φ : Rs → Prop}
  (h:Gd (finS S.length) Φ (RK P fn c ⟨args++bots (nt - args.length),S,tk,n⟩ [])):∃ r,cL P f args S tk n=some r/\Φ r:=by
 obtain ⟨r,h1,h2⟩:=h;exact ⟨r,M8 hf hx hb ar lj hp h1,h2⟩
theorem Ap4 [Globs] [Ext P] {f : FuncId} {c : Code} (hf : P.funcs[f]? = some fn) (hx : (!Ext.on P f && Ext.mv P f) = true) (hb : fn.body = some c) (ar : (fn.name == "runtime.NumGoroutine") = false) {args : List AV} {nt : Nat} (lj : fn.ntmps = nt) {S : List Ent} {tk : List Nat} {n : Nat} {Φ : Rs → Prop}
  (h:Gd finM Φ (RK P fn c ⟨args++bots (nt - args.length),S,tk,n⟩ [])):∃ r,cL P f args S tk n=some r/\Φ r:=by
 obtain ⟨r,h1,h2⟩:=h;exact ⟨r,Akw hf hx hb ar lj h1,h2⟩
end
section
variable {P:Program} {fn:Func} [Globs] [Ext P] {f:FuncId} {c:Code} {args:List AV} {nt:Nat} {S:List Ent} {tk:List Nat} {n:Nat} {Φ:Rs->Prop}
theorem opG (hf : P.funcs[f]? = some fn) (lj : fn.ntmps = nt) (h : Gd (finS S.length) Φ (KX P fn c ⟨args ++ bots (nt - args.length), S, tk, n⟩ [] .mk)) (hx : (Ext.on P f || Ext.mv P f) = false := by exact rfl) (hb : fn.body = some c := by exact rfl) (ar : (fn.name == "runtime.NumGoroutine") = false := by decide +kernel) (hp : (args.map w2).all pure2 = false := by exact rfl) : ∃ r, cL P f args S tk n = some r ∧ Φ r := Aap hf hx hb ar lj hp h
theorem opM (hf : P.funcs[f]? = some fn) (lj : fn.ntmps = nt) (h : Gd finM Φ (KX P fn c ⟨args ++ bots (nt - args.length), S, tk, n⟩ [] .mk)) (hx : (!Ext.on P f && Ext.mv P f) = true := by exact rfl) (hb : fn.body = some c := by exact rfl) (ar : (fn.name == "runtime.NumGoroutine") = false := by decide +kernel) : ∃ r, cL P f args S tk n = some r ∧ Φ r := Ap4 hf hx hb ar lj h
end
set_option linter.defProp false in
def evg1:=B2 @Av6 <| B2 @Av5 <| B2 @Ao9 <| B2 @Ao8 evs1
/- rows of cells -/
theorem Ac1 {sz:Nat} : ∀ {e r:List AV},e.length=sz->takeN sz (e++r)=some e:=by
 induction sz with
 | zero=>intro e r h; rw [Fc.1 h]; rfl
 | succ n ih =>
  intro e r h;cases e with
  | nil=>simp at h
  | cons x e=>simp only [Cp,takeN,ih aI,Cy]
theorem R5 {e':List AV} : ∀ {e r:List AV},e.length=e'.length->over (e++r) 0 e'=some (e'++r):=by
 induction e' with
 | nil=>intro e r h; rw [Fc.1 h]; simp [over]
 | cons x e' ih =>
  intro e r h;cases e with
  | nil=>simp at h
  | cons y e=>simp only [Cp,over,ih aI,Cy]
section
variable {sz:Nat}
theorem Abj:∀ {es:List (List AV)} {k:Nat} {e:List AV},(∀ e ∈ es,e.length=sz)->nth es k=some e->takeN sz (es.flatten.drop (k*sz))=some e
 | x :: es,0,e,h,hk=>by
  simp only [nth,A3] at hk;subst hk;simp only [Oj,Fi,Ff];exact Ac1 (h _ (by simp))
 | x :: es,k+1,e,h,hk=>by
  have hx:=h x (by simp);have e1:(k+1)*sz=x.length+k*sz:=by rw [hx,Oc,Nat.add_comm]
  rw [e1,Ff,gI];simp only [Nat.add_sub_cancel_left];rw [Fx aA,Cz];exact Abj (fun e he=>h e (by simp [he])) hk
 | [],_,_,_,hk=>by simp [nth] at hk
theorem N9:∀ {es:List (List AV)} {k:Nat} {e e':List AV},(∀ e ∈ es,e.length=sz)->nth es k=some e->e'.length=sz->over es.flatten (k*sz) e'=some (put es k e').flatten
 | x :: es,0,e,e',h,_,he=>by
  simp only [Oj,Ff,put];exact R5 (by rw [h x (by simp),he])
 | x :: es,k+1,e,e',h,hk,he=>by
  have hx:=h x (by simp);have e1:(k+1)*sz=x.length+k*sz:=by rw [hx,Oc,Nat.add_comm]
  have ih:=N9 (es:=es) (k:=k) (fun e he=>h e (by simp [he])) hk he;have gen:∀ (p cs:List AV) (o:Nat) (r:List AV),over cs o e'=some r->over (p++cs) (p.length+o) e'=some (p++r):=by
   intro p;induction p with
   | nil=>intro cs o r h; simpa using h
   | cons y p ih =>
    intro cs o r h;have:=ih cs o r h;have e2:(y :: p).length+o=(p.length+o)+1:=aC
    rw [e2];cases e' <;> simp only [Cp,over,this,Cy]
  rw [e1,Ff];simp only [put,Ff];exact gen x _ _ _ ih
 | [],_,_,_,_,hk,_=>by simp [nth] at hk
end
def flat (ce:Q->List AV) (l:List Q):List AV:=(l.map ce).flatten
section
variable {ce:Q->List AV} {sz:Nat} (hce:∀ q,(ce q).length=sz)
include hce
theorem Ax {l:List Q} {k:Nat} {q:Q} (h:nth l k=some q):takeN sz ((flat ce l).drop (k*sz))=some (ce q):=by
 unfold flat;refine Abj (fun e he=>?_) ?_
 ·obtain ⟨x,-,rfl⟩:=Fg.1 he;exact hce x
 ·rw [Ae] at h ⊢; rw [F1,h]; rfl
theorem Bf {l:List Q} {k:Nat} {q':Q} (h:k<l.length):over (flat ce l) (k*sz) (ce q')=some (flat ce (put l k q')):=by
 unfold flat;rw [<- Qq];refine N9 (e:=ce l[k]) (fun e he=>?_) ?_ (hce q')
 ·obtain ⟨x,-,rfl⟩:=Fg.1 he;exact hce x
 ·rw [Ae,F1,It h]; rfl
end
abbrev QQ.rcvQ (i e:Nat):AV:=.ref i e 0
abbrev WW.rcvQ (_ _:Nat):AV:=.agg []
abbrev QQ.zeroQ:List AV:=[.int 0,.int 0]
abbrev WW.zeroQ:List AV:=[.prim (.bool false),.frz [] .nilc,.prim (.bool false),.frz [] .nilc]
end
section
open Go Tryz
def ceQ (a:Q):List AV:=[.int a.1,.int a.2]
def ceW (a:Q):List AV:=[.prim (.bool (decide (a.1<0))),digA (dig a.1.natAbs),.prim (.bool (decide (a.2<0))),digA (dig a.2.natAbs)]
theorem Aw (a:Q):(ceQ a).length=2:=rfl
theorem Aq (a:Q):(ceW a).length=4:=rfl
theorem Bx (a:Q):(ceQ a).all leafOk=true:=rfl
theorem Bg (a:Q):(ceW a).all leafOk=true:=rfl
theorem QQ.Asj (m:Nat) (S:List Ent) (a:Q):(ceQ a).map (fz1 m S)=ceQ a:=rfl
theorem WW.Asj (m:Nat) (S:List Ent) (a:Q):(ceW a).map (fz1 m S)=ceW a:=rfl
theorem QQ.ovQ (a:Q):over [.int 0,.int 0] 0 (ceQ a)=some (ceQ a):=rfl
theorem QQ.ovQ2 (a b:Q):over (ceQ b) 0 (ceQ a)=some (ceQ a):=rfl
theorem WW.ovQ (a:Q):over [.prim (.bool false),.frz [] .nilc,.prim (.bool false),.frz [] .nilc] 0 (ceW a)=some (ceW a):=rfl
theorem WW.ovQ2 (a b:Q):over (ceW b) 0 (ceW a)=some (ceW a):=rfl
theorem QQ.tkQ (a:Q):takeN 2 (ceQ a)=some (ceQ a):=rfl
theorem WW.tkQ (a:Q):takeN 4 (ceW a)=some (ceW a):=rfl
theorem QQ.puQ (a:Q):((ceQ a).map w1).all pure1=true:=rfl
theorem WW.puQ (a:Q):((ceW a).map w1).all pure1=true:=rfl
theorem Wu (a:Q):(ceW a).all pure1=true:=rfl
theorem Wv (a:Q):(ceW a).map w1=ceW a:=rfl
def QQ.FAq (S:List Ent) (iq eq:Nat) (b:Bool):Prop:=entAt S iq eq=some [.prim (.bool b)]
structure WW.FAq (_:List Ent) (_ _:Nat) (_:Bool):Prop where
def WW.flS (S:List Ent) (_ _:Nat) (_:Bool):List Ent:=S
theorem WW.Es {S:List Ent} {iq eq:Nat} {b c:Bool} (_:WW.FAq S iq eq b):gO S (WW.flS S iq eq c)=some ():=gO_refl
theorem QQ.Es {S:List Ent} {iq eq:Nat} {b c:Bool} (h:QQ.FAq S iq eq b):gO S (QQ.flS S iq eq c)=some ():=Axc h
theorem QQ.FAq.fS {S:List Ent} {iq eq:Nat} {b c:Bool} (h:QQ.FAq S iq eq b):QQ.FAq (QQ.flS S iq eq c) iq eq (b || c):=Alw h
theorem WW.FAq.fS {S:List Ent} {iq eq:Nat} {b c:Bool} (_:WW.FAq S iq eq b):WW.FAq (WW.flS S iq eq c) iq eq (b || c):=⟨⟩
theorem QQ.FAq.app {S L:List Ent} {iq eq:Nat} {b:Bool} (h:QQ.FAq S iq eq b):QQ.FAq (S++L) iq eq b:=Ad h
theorem WW.FAq.app {S L:List Ent} {iq eq:Nat} {b:Bool} (_:WW.FAq S iq eq b):WW.FAq (S++L) iq eq b:=⟨⟩
theorem QQ.Hs {S L:List Ent} {iq eq:Nat} {b c:Bool} (h:QQ.FAq S iq eq c):QQ.flS (S++L) iq eq b=QQ.flS S iq eq b++L:=Yr (Ba h)
theorem WW.Hs {S L:List Ent} {iq eq:Nat} {b c:Bool} (_:WW.FAq S iq eq c):WW.flS (S++L) iq eq b=WW.flS S iq eq b++L:=rfl
theorem WW.Bi {S:List Ent} {iq eq:Nat} {b:Bool} : (WW.flS S iq eq b).length=S.length:=rfl
theorem Bo {S:List Ent} {iq eq j:Nat} {b:Bool} (_:j≠iq):nth (WW.flS S iq eq b) j=nth S j:=rfl
theorem QQ.FAq.put {S:List Ent} {iq eq i:Nat} {b:Bool} {x:Ent} (h:QQ.FAq S iq eq b) (hne:i≠iq):QQ.FAq (put S i x) iq eq b:=by unfold QQ.FAq; rw [Ah hne]; exact h
theorem WW.FAq.put {S:List Ent} {iq eq i:Nat} {b:Bool} {x:Ent} (_:WW.FAq S iq eq b) (_:i≠iq):WW.FAq (put S i x) iq eq b:=⟨⟩
theorem QQ.FAq.of {S S':List Ent} {iq eq:Nat} {b:Bool} (h:QQ.FAq S iq eq b) (hne:nth S' iq=nth S iq):QQ.FAq S' iq eq b:=by unfold QQ.FAq; rw [Ac hne]; exact h
theorem WW.FAq.of {S S':List Ent} {iq eq:Nat} {b:Bool} (_:WW.FAq S iq eq b) (_:nth S' iq=nth S iq):WW.FAq S' iq eq b:=⟨⟩
section
variable (S:List Ent) (tk:List Nat) (k iq eq:Nat) (fl:Bool)
theorem QQ.M1 (a b:Q) (ha:QQ.qF.ok a) (hb:QQ.qF.ok b) (hq:QQ.FAq S iq eq fl):cL prog 217 [.ref iq eq 0,.agg (ceQ a),.agg (ceQ b)] S tk k=some (.agg (ceQ (QQ.qF.minus a b).1),QQ.flS S iq eq (QQ.qF.minus a b).2,tk,k+4):=Aer S tk k iq eq fl a b ha hb hq
theorem QQ.Ahm (a b:Q) (ha:QQ.qF.ok a) (hb:QQ.qF.ok b) (hq:QQ.FAq S iq eq fl):cL prog 221 [.ref iq eq 0,.agg (ceQ a),.agg (ceQ b)] S tk k=some (.agg (ceQ (QQ.qF.times a b).1),QQ.flS S iq eq (QQ.qF.times a b).2,tk,k+4):=Aes S tk k iq eq fl a b ha hb hq
theorem QQ.Axv (a b:Q) (ha:QQ.qF.ok a) (hb:QQ.qF.ok b) (hq:QQ.FAq S iq eq fl):cL prog 218 [.ref iq eq 0,.agg (ceQ a),.agg (ceQ b)] S tk k=some (.agg (ceQ (QQ.qF.over a b).1),QQ.flS S iq eq (QQ.qF.over a b).2,tk,k+QQ.Abs b):=Ai1 S tk k iq eq fl a b ha hb hq
theorem QQ.Ly (n:Int) (_:i64 n) (hq:QQ.FAq S iq eq fl):cL prog 222 [.ref iq eq 0,.int n] S tk k=some (.agg (ceQ (QQ.qF.whole n).1),QQ.flS S iq eq (QQ.qF.whole n).2,tk,k+1):=Aet S tk k iq eq fl n hq
theorem QQ.Aey (a:Q) (_:QQ.qF.ok a) (hq:QQ.FAq S iq eq fl):cL prog 220 [.ref iq eq 0,.agg (ceQ a)] S tk k=some (.int (sgn a),S,tk,k+1):=Ai2 S tk k iq eq fl a hq
theorem QQ.Af5 (hq:QQ.FAq S iq eq fl):cL prog 216 [.ref iq eq 0] S tk k=some (.bool (!(QQ.qF.stop && fl)),S,tk,k):=Aeq S tk k iq eq fl hq
theorem WW.Af5 (_:WW.FAq S iq eq fl):cL prog 242 [.agg []] S tk k=some (.bool (!(WW.qF.stop && fl)),S,tk,k):=Ai8 S tk k
theorem QQ.Vn (a:Q) (ha:QQ.qF.ok a) (hq:QQ.FAq S iq eq fl):cL prog 219 [.ref iq eq 0,.agg (ceQ a)] S tk k=some (.agg (ceW (QQ.qF.rat a)),S,tk,k+3):=Wk S tk k iq eq fl a ha hq
theorem WW.Vn (a:Q) (_:WW.qF.ok a) (_:WW.FAq S iq eq fl):cL prog 245 [.agg [],.agg (ceW a)] S tk k=some (.agg (ceW (WW.qF.rat a)),S,tk,k+0):=Zr S tk k a
def WW.Abs (_:Q):Nat:=0
theorem WW.M1 (a b:Q) (ha:WW.qF.ok a) (hb:WW.qF.ok b) (_:WW.FAq S iq eq fl):cL prog 243 [.agg [],.agg (ceW a),.agg (ceW b)] S tk k=some (.agg (ceW (WW.qF.minus a b).1),WW.flS S iq eq (WW.qF.minus a b).2,tk,k+0):=Ai9 S tk k a b ha hb
theorem WW.Ahm (a b:Q) (ha:WW.qF.ok a) (hb:WW.qF.ok b) (_:WW.FAq S iq eq fl):cL prog 247 [.agg [],.agg (ceW a),.agg (ceW b)] S tk k=some (.agg (ceW (WW.qF.times a b).1),WW.flS S iq eq (WW.qF.times a b).2,tk,k+0):=Aja S tk k a b ha hb
theorem WW.Axv (a b:Q) (ha:WW.qF.ok a) (hb:WW.qF.ok b) (_:WW.FAq S iq eq fl):cL prog 244 [.agg [],.agg (ceW a),.agg (ceW b)] S tk k=some (.agg (ceW (WW.qF.over a b).1),WW.flS S iq eq (WW.qF.over a b).2,tk,k+WW.Abs b):=Aoa S tk k a b ha hb
theorem WW.Ly (n:Int) (hn:i64 n) (_:WW.FAq S iq eq fl):cL prog 248 [.agg [],.int n] S tk k=some (.agg (ceW (WW.qF.whole n).1),WW.flS S iq eq (WW.qF.whole n).2,tk,k+0):=Ajb S tk k n hn
theorem WW.Aey (a:Q) (ha:WW.qF.ok a) (_:WW.FAq S iq eq fl):cL prog 246 [.agg [],.agg (ceW a)] S tk k=some (.int (sgn a),S,tk,k+0):=Aob S tk k a ha
end
/- the algorithm -/
def J9 (F:Fld) (b a r:Q):Q × Bool:=if sgn r=0 then (a,false) else ((F.minus a (F.times b r).1).1,(F.times b r).2 || (F.minus a (F.times b r).1).2)
def lessL (F:Fld) (b:Q):List Q->List Q->List Q × Bool
 | a :: l,r :: m=>((J9 F b a r).1 :: (lessL F b l m).1,(J9 F b a r).2 || (lessL F b l m).2)
 | l,_=>(l,false)
def lessT (F:Fld) (a r:List Q) (c:Nat):List Q × Bool:=match nth a c with|some b=>if sgn b=0 then (a,false) else lessL F b a r|none=>(a,false)
theorem Er {α:Type} {p u:List α} {x:α} : nth (p++x :: u) p.length=some x:=by
 rw [Ae,C3 (Cf _),Mg]; rfl
theorem G8 {α:Type} {p u:List α} {x y:α} : put (p++x :: u) p.length y=p++y :: u:=by
 rw [Vg,fX _ _ (Cf _),Mg]; rfl
def okL (F:Fld) (l:List Q):Prop:=∀ q ∈ l,F.ok q
theorem Ar0 {F:Fld} (hF:F.Keeps) {b a r:Q} (hb:F.ok b) (ha:F.ok a) (hr:F.ok r):F.ok (J9 F b a r).1:=by
 unfold J9;split
 ·exact ha
 ·exact hF.minus _ _ ha (hF.times _ _ hb hr)
theorem Ph {F:Fld} {b:Q} : ∀ {l m:List Q},(lessL F b l m).1.length=l.length
 | [],_=>by simp [lessL]
 | a :: l,[]=>rfl
 | a :: l,r :: m=>by simp only [lessL,Cm,Ph]
theorem Yz {F:Fld} (hF:F.Keeps) {b:Q} (hb:F.ok b):∀ {l m:List Q},okL F l->okL F m->okL F (lessL F b l m).1
 | [],_,h,_=>by simpa [lessL] using h
 | a :: l,[],h,_=>h
 | a :: l,r :: m,h,h'=>by
  intro q hq;simp only [lessL,C6] at hq;rcases hq with rfl|hq
  ·exact Ar0 hF hb (h _ (by simp)) (h' _ (by simp))
  ·exact Yz hF hb (fun q hq=>h q cA) (fun q hq=>h' q cA) q hq
theorem QQ.Ga : mRow prog 118 "liquidcheck/simplex.whole" = some 222 ∧ mRow prog 118 "liquidcheck/simplex.minus" = some 217 ∧
  mRow prog 118 "liquidcheck/simplex.times" = some 221 ∧ mRow prog 118 "liquidcheck/simplex.over" = some 218 ∧
  mRow prog 118 "liquidcheck/simplex.sign" = some 220 ∧ mRow prog 118 "liquidcheck/simplex.rational" = some 219 ∧
  mRow prog 118 "liquidcheck/simplex.exact" = some 216 := aR
theorem WW.Ga : mRow prog 123 "liquidcheck/simplex.whole" = some 248 ∧ mRow prog 123 "liquidcheck/simplex.minus" = some 243 ∧
  mRow prog 123 "liquidcheck/simplex.times" = some 247 ∧ mRow prog 123 "liquidcheck/simplex.over" = some 244 ∧
  mRow prog 123 "liquidcheck/simplex.sign" = some 246 ∧ mRow prog 123 "liquidcheck/simplex.rational" = some 245 ∧
  mRow prog 123 "liquidcheck/simplex.exact" = some 242 := aR
theorem xfs:xF 216=true/\xF 217=true/\xF 218=true/\xF 219=true/\xF 220=true/\xF 221=true/\xF 222=true/\xF 145=true/\xF 151=true/\xF 137=true/\xF 136=true/\xF 180=true/\xF 170=true/\xF 140=true/\xF 266=true/\xF 147=true/\xF 153=true:=⟨rfl,rfl,rfl,rfl,rfl,rfl,rfl,rfl,rfl,rfl,rfl,rfl,rfl,rfl,rfl,rfl,rfl⟩
end
section
open Go
structure Tb where
 vars:Nat
 real:Nat
 rows:List (List Q)
 cost:List Q
 basis:List Nat
 flip:List Bool
 fl:Bool
def dvS (F:Fld) (b x:Q):Q × Bool:=if sgn x=0 then (x,false) else F.over x b
def divL (F:Fld) (b:Q):List Q->List Q × Bool
 | []=>([],false)
 | x :: l=>((dvS F b x).1 :: (divL F b l).1,(dvS F b x).2 || (divL F b l).2)
def lessK (F:Fld) (row:List Q) (c i k:Nat) (r:List Q):List Q × Bool:=if k=i then (r,false) else lessT F r row c
def lessRows (F:Fld) (row:List Q) (c i:Nat):Nat->List (List Q)->List (List Q) × Bool
 | _,[]=>([],false)
 | k,r :: l=>((lessK F row c i k r).1 :: (lessRows F row c i (k+1) l).1,(lessK F row c i k r).2 || (lessRows F row c i (k+1) l).2)
def at_ {α:Type} (d:α) (l:List α) (k:Nat):α:=(nth l k).getD d
def q0:Q:=(0,1)
def Da (t:Tb) (i:Nat):List Q:=at_ [] t.rows i
def Ef (F:Fld) (t:Tb) (i c:Nat):Tb :=
 let d:=divL F (at_ q0 (Da t i) c) (Da t i)
 let rs:=lessRows F d.1 c i 0 (put t.rows i d.1)
 let k:=lessT F t.cost d.1 c
 { t with rows:=rs.1,cost:=k.1,basis:=put t.basis i c,fl:=((t.fl || d.2) || rs.2) || k.2 }
def worse (basis:List Nat) (s:Int) (k bi:Nat):Bool:=decide (0<s) || (s == 0 && decide (at_ 0 basis bi<at_ 0 basis k))
def B4 (F:Fld) (basis:List Nat) (c W:Nat):Nat->List (List Q)->Option (Nat × Q)->Option (Nat × Q) × Bool
 | _,[],b=>(b,false)
 | k,r :: l,b =>
  if sgn (at_ q0 r c)<=0 then B4 F basis c W (k+1) l b else
   let q:=F.over (at_ q0 r (W - 1)) (at_ q0 r c)
   match b with
   | none=>((B4 F basis c W (k+1) l (some (k,q.1))).1,q.2 || (B4 F basis c W (k+1) l (some (k,q.1))).2)
   | some (bi,least) =>
    let d:=F.minus q.1 least
    let b':=if worse basis (sgn d.1) k bi=true then some (bi,least) else some (k,q.1)
    ((B4 F basis c W (k+1) l b').1,(q.2 || d.2) || (B4 F basis c W (k+1) l b').2)
def Br (F:Fld) (t:Tb) (c:Nat):Option (Nat × Q) × Bool:=B4 F t.basis c t.cost.length 0 t.rows none
def colF (cost:List Q):Nat->Nat->Option Nat
 | 0,_=>none
 | n+1,k=>if sgn (at_ q0 cost k)<0 then some k else colF cost n (k+1)
def Hr (F:Fld):Nat->Tb->Option (Bool × Tb)
 | 0,_=>none
 | n+1,t=>if (F.stop && t.fl)=true then some (true,t) else
  match colF t.cost t.real 0 with
  | none=>some (true,t)
  | some c=>match Br F t c with
   | (none,f)=>some (false,{ t with fl:=t.fl || f })
   | (some (i,_),f)=>Hr F n (Ef F { t with fl:=t.fl || f } i c)
def Jc (t:Tb):Bool:=sgn (at_ q0 t.cost (t.cost.length - 1)) == 0
def K4 (basis:List Nat) (k:Nat):Nat->List (List Q)->Option Nat
 | _,[]=>none
 | i,_ :: l=>if at_ 0 basis i=k then some i else K4 basis k (i+1) l
def Dd (F:Fld) (t:Tb) (k:Nat):Q × Bool:=match K4 t.basis k 0 t.rows with|some i=>(at_ q0 (Da t i) (t.cost.length - 1),false)|none=>F.whole 0
def ptF (F:Fld) (t:Tb) (k:Nat):Q × Bool :=
 let a:=Dd F t (2*k)
 let b:=Dd F t (2*k+1)
 let d:=F.minus a.1 b.1
 (d.1,(a.2 || b.2) || d.2)
def Dy (f:Nat->Q × Bool):Nat->Nat->List Q × Bool
 | 0,_=>([],false)
 | n+1,k=>((f k).1 :: (Dy f n (k+1)).1,(f k).2 || (Dy f n (k+1)).2)
def Gg (F:Fld) (t:Tb):List Q × Bool:=Dy (ptF F t) t.vars 0
def mulF (F:Fld) (t:Tb) (i:Nat):Q × Bool :=
 let y:=F.minus (at_ q0 t.cost (t.real+i)) (F.whole 1).1
 if at_ false t.flip i=true then
  let z:=F.minus (F.whole 0).1 y.1
  (z.1,y.2 || ((F.whole 0).2 || z.2))
 else y
def Hc (F:Fld) (t:Tb):List Q × Bool:=((Dy (mulF F t) t.rows.length 0).1,(F.whole 1).2 || (Dy (mulF F t) t.rows.length 0).2)
structure TI where
 it:Nat
 et:Nat
 ir:Nat
 er:Nat
 ic:Nat
 ec:Nat
 ib:Nat
 eb:Nat
 ids:List (Nat × Nat)
structure Apart (I:TI) (iq:Nat):Prop where
 tr:I.it≠I.ir
 tc:I.it≠I.ic
 tb:I.it≠I.ib
 rc:I.ir≠I.ic
 rb:I.ir≠I.ib
 cb:I.ic≠I.ib
 qt:iq≠I.it
 qr:iq≠I.ir
 qc:iq≠I.ic
 qb:iq≠I.ib
 row:∀ p ∈ I.ids,p.1≠I.it/\p.1≠I.ir/\p.1≠I.ic/\p.1≠I.ib/\p.1≠iq
 rows:∀ i j p q,nth I.ids i=some p->nth I.ids j=some q->i≠j->p.1≠q.1
def g8 (W sz:Nat) (x:Nat × Nat):AV:=.sref x.1 x.2 0 W sz
def dq (id ep sz:Nat):Nat->AV
 | 0=>.frz [] .nilc
 | n+1=>.sref id ep 0 (n+1) sz
def Dx (b:Bool):List AV:=[.bool b]
def intA (n:Nat):AV:=.int (n:Int)
theorem Ak {α:Type} {l:List α} {i:Nat} {x:α} (h:nth l i=some x):x ∈ l:=by rw [Ae] at h; exact Iq h
theorem Bb {α:Type} {d:α} {l:List α} {k:Nat} {x:α} (h:nth l k=some x):at_ d l k=x:=by unfold at_; rw [h]; rfl
theorem Li {α:Type} {l:List α} {i j:Nat} {x:α} (h:i<l.length):nth (put l i x) j=if j=i then some x else nth l j:=by
 by_cases e:j=i
 ·subst e; rw [if_pos rfl,Dt h]
 ·rw [if_neg e,Af (O3 e)]
theorem Aj {α:Type} {l:List α} {i:Nat} {x:α} : (put l i x).length=l.length:=Am
theorem Pq {α:Type} {l:List α} {i:Nat} {x y:α} : put (put l i x) i y=put l i y:=by
 induction l generalizing i with
 | nil=>rfl
 | cons z l ih=>cases i with
  | zero=>rfl
  | succ i=>simp only [put,ih]
theorem Acm {α:Type} {l:List α} {i:Nat} {x:α} (h:nth l i=some x):put l i x=l:=by
 induction l generalizing i with
 | nil=>rfl
 | cons z l ih=>cases i with
  | zero=>simp only [nth,A3] at h; subst h; rfl
  | succ i=>simp only [nth] at h; simp only [put,ih h]
theorem Bu {α:Type} {l:List α} {i:Nat} {x y:α} (h:y ∈ put l i x):y=x\/y ∈ l:=by
 rw [Vg] at h;rcases List.mem_or_eq_of_mem_set h with h|h
 ·exact .inr h
 ·exact .inl h
theorem Bm {id ep sz n:Nat} (h:0<n):dq id ep sz n=.sref id ep 0 n sz:=by
 cases n with
 | zero=>omega
 | succ n=>rfl
theorem Eb {S:List Ent} {n i e:Nat} (h:i<n):entAt (S.take n) i e=entAt S i e:=by
 unfold entAt;rw [Ae,Ae,I2]; simp [h]
theorem QQ.FAq.take {S:List Ent} {n iq eq:Nat} {b:Bool} (h:QQ.FAq S iq eq b) (hi:iq<n):QQ.FAq (S.take n) iq eq b:=by unfold QQ.FAq; rw [Eb hi]; exact h
theorem WW.FAq.take {S:List Ent} {n iq eq:Nat} {b:Bool} (_:WW.FAq S iq eq b) (_:True):WW.FAq (S.take n) iq eq b:=⟨⟩
theorem Gs {α:Type} {l:List α} {n j:Nat} (h:j<n):nth (l.take n) j=nth l j:=by
 rw [Ae,Ae,I2]; simp [h]
theorem Bv {α:Type} {l m:List α} {j:Nat} (h:j<l.length):nth (l++m) j=nth l j:=by
 rw [Ae,Ae,Cu h]
theorem Anp {α:Type} {l:List α} {i:Nat} {x:α} : put l i x=[]↔l=[]:=by
 cases l with
 | nil=>simp [put]
 | cons y l=>cases i <;> simp [put]
end
section
open Go Tryz
def coefC (c:ByteArray × Int):List AV:=[.prim (.string c.1),.prim (.int .i64 c.2)]
def Ag (cs:List (ByteArray × Int)):AV:=.frz (cs.map coefC) .unk
def linA (cs:List (ByteArray × Int)) (n:Int):AV:=.agg [Ag cs,.prim (.int .i64 n)]
def rowA (cs:List (ByteArray × Int)) (n:Int) (eq:Bool):AV:=.agg [Ag cs,.prim (.int .i64 n),.prim (.bool eq)]
def Hq (s:ByteArray):Bool:=sEq s ⟨#[]⟩ || decide ((s.size:Int) > 400)
def Pn:Option ByteArray->ByteArray->Bool
 | none,_=>false
 | some p,s=>sLt s p || sEq s p
def Bn (n:Int):Option ByteArray->List (ByteArray × Int)->Int
 | _,[]=>if inB n then 0 else 2
 | p,c :: cs=>if Hq c.1 then 3 else if c.2 == 0 || !inB c.2 then 2 else if Pn p c.1 then 9 else Bn n (some c.1) cs
def Az (cs:List (ByteArray × Int)) (n:Int):Int:=if 24<cs.length then 7 else Bn n none cs
def Ml (cs:List (ByteArray × Int)):Nat->Option ByteArray
 | 0=>none
 | j+1=>(nth cs j).map (·.1)
section
variable (S:List Ent) (tk:List Nat) (k:Nat)
theorem Aej (n:Int):cL prog 58 [.int n] S tk k=some (.bool (inB n),S,tk,k):=by
 refine opP func58 ntmps58 ?_;simp +contextual only [ev0,reduceIte,reduceCtorEq,gX,jB,jC,gN,jD,jV,gP,jE,Cc,Ca,Cd,results58];unfold inB;exact ⟨fun h=>dE,fun h=>dE⟩
theorem Ed (cs:List (ByteArray × Int)) (n:Int) (hlen:cs.length<=1048576):cL prog 33 [linA cs n] S tk k=some (.int (Az cs n),S,tk,k):=by
 refine opP func33 ntmps33 ?_;simp (maxSteps:=10^6)+contextual(disch:=try exact dqd)only[ev1,reduceIte,reduceCtorEq,gX,jB,jC,gN,jD,jV,gP,jE,Cc,Ca,Cd,results33,linA,Ag];refine ⟨fun h=>?_,fun h=>?_⟩
 ·unfold Az; rw [if_pos (by simp at h; omega)]
 have hc:Az cs n=Bn n none cs:=by unfold Az; rw [if_neg (by simp at h; omega)]
 rw [hc];refine loop1 (fun i st=>st.T.length=57/\i<=cs.length/\getT st.T 1=.ref 0 0 0/\getT st.T 10=Ag cs/\getT st.T 11=.int cs.length/\getT st.T 12=.int (i:Nat)/\st.S=[⟨0,[Ag cs,.int n]⟩]) (fun i=>cs.length - i) (fun i=>.int (Bn n (Ml cs i) (cs.drop i))) 0 ?_ ?_;case refine_2=>exact ⟨rfl,Cl _,rfl,rfl,rfl,rfl,rfl⟩
 rintro i ⟨T,S',tk',n'⟩ ⟨hl,hi,e1,e10,e11,e12,rfl⟩ IH;obtain ⟨g,hg,hT⟩:=Ao hl;rw [hg] at e1 e10 e11 e12;subst hT;clear hg hl h hc;by_cases hlt:i<cs.length
 ·have d1:decide ((i:Int)<(cs.length:Int))=true:=aH
  obtain ⟨c,hc⟩:=Ab hlt;have bp:nth (cs.map coefC) i=some (coefC c):=dI
  have hw:=Ar (i:=i) aA;have hp:Ml cs (i+1)=some c.1:=by simp [Ml,hc]
  rw [Au hc];rcases i with _|j
  ·have d2:decide (((0:Nat):Int) > 0)=false:=rfl;simp (maxSteps:=10^6)+contextual(disch:=try exact dqd)only[ev1,reduceIte,reduceCtorEq,gX,jB,jC,gN,jD,jV,gP,jE,Cc,Ca,Cd,results33,e1,e10,e11,e12,d1,d2,Ag,bp,hw,coefC,Aej];refine ⟨fun h1=>?_,fun h1=>⟨fun h2=>?_,fun h2=>⟨fun h3=>?_,fun h3=>⟨fun h4=>?_,fun h4=>?_⟩⟩⟩⟩
   ·simp [Bn,Hq,h1]
   ·simp only [Bn,Hq,h1,h2]; rfl
   ·simp only [Bn,Hq,h1,h2,h3]; rfl
   ·rw [IH 1 _ aA ⟨rfl,aA,rfl,rfl,rfl,rfl,rfl⟩,hp];simp only [Bn,Hq,h1,h2,h3,h4,Ml,Pn]; rfl
   ·simp only [Bn,Hq,h1,h2,h3,h4]; rfl
  ·have d2:decide (((j+1:Nat):Int) > 0)=true:=decide_eq_true aA;obtain ⟨p,qq⟩:=Ab (show j<cs.length by omega);have fk:nth (cs.map coefC) j=some (coefC p):=by rw [Bj,qq]; rfl
   have hw':=Ao3 (j:=j) aA;have hpp:Ml cs (j+1)=some p.1:=by simp [Ml,qq]
   simp (maxSteps:=10^6)+contextual(disch:=try exact dqd)only[ev1,reduceIte,reduceCtorEq,gX,jB,jC,gN,jD,jV,gP,jE,Cc,Ca,Cd,results33,e1,e10,e11,e12,d1,d2,Ag,bp,hw,coefC,Aej,fk,hw'];refine ⟨fun h1=>?_,fun h1=>⟨fun h2=>?_,fun h2=>⟨fun h3=>?_,fun h3=>⟨fun h4=>?_,fun h4=>?_⟩⟩⟩⟩
   ·simp [Bn,Hq,h1]
   ·simp only [Bn,Hq,h1,h2]; rfl
   ·simp only [Bn,Hq,h1,h2,h3]; rfl
   ·refine ⟨fun h5=>?_,fun h5=>?_⟩
    ·simp only [Bn,Hq,h1,h2,h3,h4,hpp,Pn,h5]; rfl
    ·rw [IH (j+1+1) _ aA ⟨rfl,aA,rfl,rfl,rfl,rfl,rfl⟩,hp];simp only [Bn,Hq,h1,h2,h3,h4,hpp,Pn,h5]; rfl
   ·simp only [Bn,Hq,h1,h2,h3,h4]; rfl
 ·have d1:decide ((i:Int)<(cs.length:Int))=false:=aH
  have he:i=cs.length:=aA
  simp (maxSteps:=10^6)+contextual(disch:=try exact dqd)only[ev1,reduceIte,reduceCtorEq,gX,jB,jC,gN,jD,jV,gP,jE,Cc,Ca,Cd,results33,e1,e10,e11,e12,d1,Ag,Aej];rw [he,C9];exact ⟨fun h=>by simp [Bn,h],fun h=>by simp [Bn,h]⟩
end
end
section
open Go
abbrev RowT:=List (ByteArray × Int) × Int × Bool
def rowC (r:RowT):List AV:=[Ag r.1,.prim (.int .i64 r.2.1),.prim (.bool r.2.2)]
def An (l:List RowT):AV:=.frz (l.map rowC) .unk
theorem Jz {l:List RowT} {i:Nat} {r:RowT} (h:nth l i=some r):nth (l.map rowC) i=some (rowC r):=cN
theorem Agu {l:List (ByteArray × Int)} {i:Nat} {c:ByteArray × Int} (h:nth l i=some c):nth (l.map coefC) i=some (coefC c):=cN
theorem Aei {l:List ByteArray} {i:Nat} {s:ByteArray} (h:nth l i=some s):nth (l.map strC) i=some [.prim (.string s)]:=cN
theorem Ai7 (l:List ByteArray):Dz 1 (l.map strC)=true:=D2 (f:=strC) (sz:=1) (fun _=>rfl) l
def D7 (l:List RowT):List ByteArray:=(l.map fun r=>r.1.map (·.1)).flatten
def varsF (l:List RowT):List ByteArray:=uniS (D7 l)
theorem Ais (l:List RowT) (r:RowT):D7 (l++[r])=D7 l++r.1.map (·.1):=by simp [D7]
theorem Db {α:Type} : ∀ {l:List α} {i:Nat} {x:α},nth l i=some x->l.take (i+1)=l.take i++[x]
 | a :: l,0,x,h=>dA
 | a :: l,i+1,x,h=>by simp only [F9,Cp,Db (l:=l) (i:=i) h]
 | [],_,_,h=>bP
def fewC (l:List RowT):Prop:=∀ r ∈ l,r.1.length<=24
theorem Acb:∀ {l:List RowT},fewC l->(D7 l).length<=24*l.length
 | [],_=>by simp [D7]
 | r :: l,h=>by
  have h1:=h r (by simp);have h2:=Acb (l:=l) fun x hx=>h x bJ;simp only [D7,Cn,Ff,Cs,F8,Cm] at h2 ⊢;omega
theorem Ei {α:Type} {l:List α} {i:Nat} {x:α} (h:nth l i=some x):x ∈ l:=Iq (by rw [Ae] at h; exact h)
end
section
open Go Tryz
def nX:ByteArray:=⟨#[120]⟩
def nY:ByteArray:=⟨#[121]⟩
def lA:List RowT:=[([(nX,1),(nY,-1)],0,false),([(nX,-1)],1,false)]
def lB:List RowT:=[([(nY,1)],0,false)]
def rIt:RowT:=([(nY,-1)],1,false)
def kzB (n:Int):List AV:=[.prim (.bool (decide (n<0))),if n=0 then .frz [] .unk else .frz [[Cc n.natAbs]] .unk]
def kzA (l:List Int):AV:=.frz (l.map kzB) .unk
def kqA (n:Int):AV:=.agg (kzB n++kzB 1)
def kq2 (x y z:Int):List AV × AV:=([kqA x,kqA y],kqA z)
def kq1 (x y:Int):List AV × AV:=([kqA x],.int y)
abbrev TabL:=List (Nat × List (List AV × AV))
def tblR:TabL:=[(139,[kq2 (-2) (-2) 0,kq2 (-2) 0 (-2),kq2 (-1) (-2) 1,kq2 (-1) (-1) 0,kq2 (-1) 0 (-1),kq2 (-1) 1 (-2),kq2 0 (-2) 2,kq2 0 (-1) 1,kq2 0 0 0,kq2 0 1 (-1),kq2 0 2 (-2),kq2 1 (-1) 2,kq2 1 0 1,kq2 1 1 0,kq2 2 0 2,kq2 2 2 0]),
 (141,[kq1 (-2) (-1),kq1 (-1) (-1),kq1 0 0,kq1 1 1,kq1 2 1]),(179,[kq2 (-1) 1 (-1),kq2 0 1 0,kq2 1 1 1]),
 (188,[kq2 (-2) (-1) 2,kq2 (-2) 0 0,kq2 (-2) 1 (-2),kq2 (-1) (-1) 1,kq2 (-1) 0 0,kq2 (-1) 1 (-1),kq2 1 (-1) (-1),kq2 1 0 0,kq2 1 1 1]),
 (178,[([kqA 0,kqA 1],.int (-1)),([kqA 1,kqA 0],.int 1)]),(138,[([.int 0],kqA 0),([.int 1],kqA 1),([.int (-1)],kqA (-1))])]
theorem Avr:Tab prog (tbT (tblR++[])):=V3 Rc Rc aJ
def rI (b:Bool):AV:=.tup [.bool b,.int 0]
end
end Go.Proofs.YthelkgdmgihhiaaGreat
