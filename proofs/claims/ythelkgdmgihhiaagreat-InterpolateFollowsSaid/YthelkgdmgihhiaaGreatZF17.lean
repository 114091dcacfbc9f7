/- Part 17. -/
import Derived.Test.YthelkgdmgihhiaaGreatZF16
open And renaming intro->B6
open Bool renaming and_eq_true->Ch,false_eq_true->C6,false_and->Ff,true_and->Fq,or_false->Fy,not_true->Gf,not_false->Hs,or_eq_true->Ib,not_eq_true'->Ih,false_ne_true->Iy,eq_iff_iff->Vn
open Go.Code renaming loop->lE
open Go.IntKind renaming i64->Cd
open Go.Proofs.YthelkgdmgihhiaaGreat.AV renaming bool->Bm,int->Ca,str->Cb
open Int renaming tdiv_eq_ediv_of_nonneg->Cz,mul_comm->Fu,tmod_eq_emod_of_nonneg->F7,mul_assoc->G0,mul_ne_zero->Ii,natAbs_mul->Im,mul_add->Oi,natCast_nonneg->Ow,reduceNeg->O4,mul_zero->Q4,mul_nonneg->Sl,add_zero->Ss,neg_mul->Sy,add_assoc->Zt,natCast_mul->iX,natAbs_tdiv->kJ,toNat_of_nonneg->kM
open List renaming replicate->Cg,length_cons->Ci,length_append->Cm,map_cons->Cn,cons_append->Co,nil_append->Cr,map_nil->Cs,getElem?_append_left->Cv,length_eq_zero_iff->Cw,mem_cons->C4,getElem?_eq_none->C5,getElem?_map->Et,take_length->Fb,take_of_length_le->Fc,drop_eq_nil_of_le->Fe,length_map->Fg,getElem?_append_right->Fh,drop_length->Fi,map_append->Fk,drop_zero->Fx,flatten_cons->F1,mem_map->F9,take_succ_cons->Ga,length_pos_iff->Ic,mem_of_getElem?->Il,getElem?_eq_getElem->Io,mem_replicate->Ip,take_append_drop->Ir,length_take->I1,getElem?_take->Ms,set_cons_succ->Sz,take_add_one->iD,mem_of_mem_take->iK,drop_append->iO,set_append_right->jM,mem_of_mem_drop->kE
open Nat renaming le_refl->Ce,zero_le->Cl,mul_one->Fj,zero_add->Fm,le_trans->Fp,lt_of_lt_of_le->F3,lt_or_ge->Ig,add_zero->Ik,gcd_pos_of_pos_right->Iq,mul_comm->Iv,lt_of_le_of_lt->Iw,div_lt_iff_lt_mul->I8,succ_mul->I9,gcd_zero_right->Nd,sub_self->Ob,reduceEqDiff->Oc,reduceLeDiff->Od,zero_mul->Om,mod_lt->Oq,add_assoc->Oy,pow_succ->Oz,reduceAdd->O0,reduceSub->O1,reduceBEq->O2,reduceMul->O3,div_add_mod->O9,mul_le_mul_left->Pd,reduceLT->Sa,mod_eq_of_lt->Se,strongRecOn->So,div_le_self->Sq,gcd_comm->jL,le_div_iff_mul_le->jQ,div_eq_of_lt->jW,gcd_le_right->jY
open Ne renaming symm->Ix
open Option renaming map_some->C7,bind_some->Oj,getD_some->Ol
open Option.some renaming injEq->Ba
namespace Go.Proofs.YthelkgdmgihhiaaGreat
section
open Go Tryz
set_option maxRecDepth 100000
theorem V3 {l:List Int} {i:Nat} {x:Int} (h:i<l.length):(l.set i x).drop i=x :: l.drop (i+1):=by
 rw [Aw (Rw h)];congr 1;rw [List.drop_set]; simp
theorem W4 (n:Nat):okD (Cg n 0):=fun d hd=>by
 exact Ya3m
structure Pa (A:Nat) (b:Int) (m:Nat) (r:Int) (out:List Int):Prop where
 len:out.length=(dig A).length
 ok:okD out
 r0:0<=r/\r<b
 eqv:val ((dig A).drop m)=val (out.drop m)*b+r
theorem Pa.start {A:Nat} {b:Int} (h:0<b):Pa A b (dig A).length 0 (Cg (dig A).length 0):=by
 refine ⟨by simp,W4 _,aA,?_⟩;exact Ya3y
theorem Pa.step {A:Nat} {b:Int} {m:Nat} {r x:Int} {out:List Int} (h:Pa A b m r out) (hm:m≠0) (rt:m<=(dig A).length) (hx:nth (dig A) (m - 1)=some x) :
  Pa A b (m - 1) ((r*10000+x).tmod b) (out.set (m - 1) ((r*10000+x).tdiv b))/\0<=(r*10000+x).tdiv b/\(r*10000+x).tdiv b<10000/\0<=(r*10000+x).tmod b/\(r*10000+x).tmod b<b:=by
 have hr:=h.r0;have hxk:=Df (Bf A) hx;have hn:0<=r*10000+x:=aA
 have e1:(r*10000+x).tdiv b=(r*10000+x) / b:=Cz hn;have e2:(r*10000+x).tmod b=(r*10000+x) % b:=F7 hn;have m0:=Int.emod_nonneg (r*10000+x) (show b≠0 by omega);have m1:=Int.emod_lt_of_pos (r*10000+x) (show 0<b by omega);have q0:0<=(r*10000+x) / b:=Int.ediv_nonneg hn aA;have q1:(r*10000+x) / b<10000:=Int.ediv_lt_of_lt_mul aA aA;have dk:m - 1+1=m:=aA
 have hlen:m - 1<out.length:=by have:=h.len; omega
 rw [e1,e2];refine ⟨⟨bQ,Ns h.ok q0 q1,⟨m0,m1⟩,?_⟩,q0,q1,m0,m1⟩;have hv:=h.eqv;rw [Aw hx,V3 hlen,val,val,dk,hv];exact Ya06
theorem Asc {A B Q R:Int} (h:A=Q*B+R) (h0:0<=R) (h1:R<B):A / B=Q/\A % B=R:=by
 exact Ya0i
theorem Ao2 {A B:Nat} {Q R:Int} (h:(A:Int)=Q*B+R) (h0:0<=R) (h1:R<B):Q=((A / B:Nat):Int)/\R=((A % B:Nat):Int):=by
 obtain ⟨e1,e2⟩:=Asc h h0 h1;rw [<- e1,<- e2];exact Ya45
theorem Pa.done {A B:Nat} {r:Int} {out:List Int} (h:Pa A B 0 r out):Dm out=dig (A / B)/\r.toNat=A % B:=by
 have hv:=h.eqv;rw [Fx,Fx,Br] at hv;obtain ⟨e1,e2⟩:=Ao2 hv h.r0.1 h.r0.2;rw [D6 h.ok,e1];exact ⟨by congr 1,aA⟩
theorem Abq (n:Nat):((10000 ^ n:Nat):Int)=(10000:Int) ^ n:=Int.natCast_pow ..
structure Dg (a d z i:Nat) (c:Int) (out:List Int):Prop where
 len:out.length=z+i
 ok:okD out
 c0:0<=c/\c<=9999
 eqv:val out+10000 ^ (z+i)*(c+d*val ((dig a).drop i))=(a*d*10000 ^ z:Nat)
theorem Dg.start (a d z:Nat):Dg a d z 0 0 (Cg z 0):=by
 refine ⟨by simp,W4 _,aA,?_⟩;rw [H6,Fx,Br,iX,iX,Abq,Ik,Int.zero_add,Int.zero_add,Fu,Fu (a:Int)]
theorem Al3 {x d:Int} (h0:0<=x) (h1:x<10000) (h2:0<=d) (h3:d<10000):0<=x*d/\x*d<=99980001:=by
 have a:=Sl h0 h2;have b:=Int.mul_le_mul (a:=x) (b:=d) (c:=9999) (d:=9999) aA aA h2 aA;omega
theorem Dg.step {a d z i:Nat} {c x n:Int} {out:List Int} (h:Dg a d z i c out) (hd:d<10000) (hx:nth (dig a) i=some x) (hn:n=c+x*d) :
  Dg a d z (i+1) (n.tdiv 10000) (out++[n.tmod 10000])/\0<=n/\n<=99990000:=by
 have hxk:=Df (Bf a) hx;have hm:=Al3 hxk.1 hxk.2 (Ow d) aA;have h3:=h.c0;have e1:n.tdiv 10000=n / 10000:=Cz aA;have e2:n.tmod 10000=n % 10000:=F7 aA;refine ⟨⟨by simp [h.len]; omega,P5 h.ok aA aA,aA,?_⟩,aA,aA⟩;have hv:=h.eqv;rw [Aw hx,val] at hv;have e3:(d:Int)*(x+10000*val ((dig a).drop (i+1)))=x*d+10000*(d*val ((dig a).drop (i+1))):=by
  rw [Oi,Fu (d:Int) x,<- G0,Fu (d:Int) 10000,G0]
 rw [e3] at hv;have:n.tmod 10000+10000*(n.tdiv 10000+d*val ((dig a).drop (i+1)))=c+(x*d+10000*(d*val ((dig a).drop (i+1)))):=aA
 rw [M2,h.len,Zt,<- Oy,J1,this];exact hv
theorem Dg.last {a d z i:Nat} {c:Int} {out:List Int} (h:Dg a d z i c out) (hi:(dig a).length<=i) :
  Dg a d z (i+1) (c.tdiv 10000) (out++[c.tmod 10000])/\c.tdiv 10000=0:=by
 have h3:=h.c0;have e1:c.tdiv 10000=c / 10000:=Cz aA;have e2:c.tmod 10000=c % 10000:=F7 aA;refine ⟨⟨by simp [h.len]; omega,P5 h.ok aA aA,aA,?_⟩,aA⟩;have hv:=h.eqv;rw [Fe hi,val] at hv;rw [Fe aA,val,M2,h.len,Zt,<- Oy,J1];rw [show c.tmod 10000+10000*(c.tdiv 10000+d*0)=c+d*0 by omega];exact hv
theorem Dg.done {a d z i:Nat} {c:Int} {out:List Int} (h:Dg a d z i c out) (hi:(dig a).length<=i) (hc:c=0):Dm out=dig (a*d*10000 ^ z):=by
 have hv:=h.eqv;rw [Fe hi,val,hc] at hv;rw [D6 h.ok];congr 1;have e:(10000:Int) ^ (z+i)*(0+d*0)=0:=by rw [Q4,Ss,Q4]
 rw [e] at hv;omega
theorem Av8 (id z:Nat):tokA id 1 (L8 (Hx 1 z (Aqd z)))=.frz ((Cg z (0:Int)).map digC) (.tok id 0 1):=by
 unfold Aqd;rw [Re (by simp),Fc (by simp),Rf];rfl
def lowV (b i:Nat):Nat:=(val ((dig b).take i)).toNat
theorem U8 (b i:Nat):((lowV b i:Nat):Int)=val ((dig b).take i):=by
 have:=Ed (l:=(dig b).take i) fun d hd=>Bf b d (iK hd);unfold lowV; omega
theorem Aly (b:Nat):lowV b 0=0:=rfl
theorem Alx {b i:Nat} {x:Int} (hx:nth (dig b) i=some x):lowV b (i+1)=lowV b i+x.toNat*10000 ^ i:=by
 have hxk:=Df (Bf b) hx;have hl:i<(dig b).length:=Bn hx;have h1:=U8 b (i+1);rw [iD,show (dig b)[i]?=some x by rw [<- Af]; exact hx,Option.toList_some,M2,I1,Nat.min_eq_left aA,<- U8 b i] at h1;have h2:((x.toNat*10000 ^ i:Nat):Int)=10000 ^ i*x:=by
  rw [iX,Abq,Fu,kM hxk.1]
 omega
theorem Apj (b:Nat):lowV b (dig b).length=b:=by
 unfold lowV; rw [Fb,Br]; rfl
theorem Alw (b i:Nat):lowV b i<=b:=by
 have h1:val ((dig b).take i)+10000 ^ ((dig b).take i).length*val ((dig b).drop i)=b:=by
  rw [<- Gj,Ir,Br]
 have h3:=Ed (l:=(dig b).drop i) fun d hd=>Bf b d (kE hd);have h4:=Sl (Int.le_of_lt (J0 ((dig b).take i).length)) h3;have:=U8 b i;omega
section
variable (S:List Ent) (tk:List Nat) (k:Nat)
theorem Zj (a d z:Nat) (hd:d<10000) (ha:(dig a).length<=100000) (hz:z<=100000):cL prog 200 [digA (dig a),.int (d:Nat),.int (z:Nat)] S tk k=some (digA (dig (a*d*10000 ^ z)),S,tk,k):=by
 refine opP func200 ntmps200 ?_;have ya:(Bc prog 58).bind (Hq prog)=some 8:=aM
 have j7:=Al1 (P:=prog) (t:=58) (n:=z) bF bF ya aA;have hzf:=Av8 0 z;simp (maxSteps:=10^6)+contextual(disch:=try exact dqd)only[ev1,simprocAttr,Ca,Bm,Cb,results200,↓Xo,digA,j7,hzf];refine loop1 (P:=prog) (fun x st=>st.T.length=43/\(Dg a d z x.1 x.2.1 x.2.2.1)/\(x.1<=(dig a).length+1)/\(Be st.tk x.2.2.2 1=true)/\(x.1=(dig a).length+1->x.2.1=0)/\getT st.T 0=digA (dig a)/\getT st.T 1=.int (d:Nat)/\getT st.T 7=.frz (x.2.2.1.map digC) x.2.2.2/\getT st.T 8=.int x.2.1/\getT st.T 9=.int (x.1:Nat)/\st.S=[]) (fun x=>(dig a).length+1 - x.1) (fun x=>digA (dig (a*d*10000 ^ z))) (0,0,Cg z 0,.tok 0 0 1) ?_ ?_;case refine_2=>exact ⟨rfl,Dg.start a d z,aA,rfl,fun _=>rfl,rfl,rfl,rfl,rfl,rfl,rfl⟩
 rintro ⟨i,w,out,c⟩ ⟨T,S',tk',n'⟩ ⟨hl,hp,hi,ab,hib,e0,e1,e7,e8,e9,eS⟩ IH;simp only at hp hi ab hib e0 e1 e7 e8 e9 eS;subst eS;obtain ⟨g,hg,hT⟩:=Ar hl;rw [hg] at e0 e1 e7 e8 e9;subst hT;clear hg hl;have hlen:=hp.len;have hr:=Dv out;have hn:(out.map digC).length+1<=1048576:=aC
 have am:=Bi ab;have dx:=A4 (i:=i) aA;have pn:=hp.c0;have ft:¬ ((10000:Int)=0):=aA
 by_cases ca:i<(dig a).length
 ·have d1:decide ((i:Int)<((dig a).length:Int))=true:=gN
  obtain ⟨x,hx⟩:=Ac ca;have hx':=B0 hx;have hxk:=Df (Bf a) hx;have hm:=Al3 hxk.1 hxk.2 (Ow d) aA;obtain ⟨n,eh⟩:∃ n,n=w+x*d:=⟨_,rfl⟩;obtain ⟨aj,ci,bo⟩:=hp.step hd hx eh;have hw1:Cd.wrap (x*d)=x*d:=Aa aD;have hw2:Cd.wrap (w+x*d)=n:=by rw [Aa aD]; exact eh.symm
  have qg:Cd.wrap (n.tdiv 10000)=n.tdiv 10000:=by
   exact Ya3c
  simp (maxSteps:=10^6)+contextual(disch:=try exact dqd)only[ev1,simprocAttr,Ca,Bm,Cb,results200,digA,e0,e1,e7,e8,e9,d1,hx',hw1,hw2,qg,hr,dx,ft];exact Yar
 ·have d1:decide ((i:Int)<((dig a).length:Int))=false:=gN
  by_cases cw:w > 0
  ·have d3:decide (w > 0)=true:=gQ
   obtain ⟨aj,sx⟩:=hp.last aA;have qg:Cd.wrap (w.tdiv 10000)=w.tdiv 10000:=by
    rw [sx,Aa aD]
   simp (maxSteps:=10^6)+contextual(disch:=try exact dqd)only[ev1,simprocAttr,Ca,Bm,Cb,results200,digA,e0,e1,e7,e8,e9,d1,d3,qg,hr,dx,ft];exact IH (i+1,w.tdiv 10000,out++[w.tmod 10000],Az tk' c 1) _ aF ⟨rfl,aj,aE,am,fun _=>sx,aB,aB,aB,aB,aB,aB⟩
  ·have d3:decide (w > 0)=false:=gQ
   have ot:=hp.done aA aA;have hT S tk k:=R9 S tk k out c aA;simp only [digA,ot] at hT;simp (maxSteps:=10^6)+contextual(disch:=try exact dqd)only[ev1,simprocAttr,Ca,Bm,Cb,results200,digA,e0,e1,e7,e8,e9,d1,d3,hT]
theorem Wj (a d:Nat) (hd:d<10000) (ha:(dig a).length<=100000):cL prog 200 [digA (dig a),.int (d:Nat),.int 0] S tk k=some (digA (dig (a*d)),S,tk,k):=by
 have:=Zj S tk k a d 0 hd ha aA;rw [Nat.pow_zero,Fj] at this;exact this
theorem Agy (a b:Nat) (ca:Cap) (ha:(dig a).length<=100000) (hb:(dig b).length<=100000):cL prog 193 [.frz ((dig a).map digC) ca,digA (dig b)] S tk k=some (digA (dig (a+b)),S,tk,k) :=
 (Aco (args:=[.frz ((dig a).map digC) ca,digA (dig b)]) (args':=[digA (dig a),digA (dig b)]) rfl rfl rfl).trans (Aeg S tk k a b ha hb)
theorem Ai0 (a b:Nat) (ha:(dig a).length<=45000) (hb:(dig b).length<=45000):cL prog 196 [digA (dig a),digA (dig b)] S tk k=some (digA (dig (a*b)),S,tk,k):=by
 refine opP func196 ntmps196 ?_;simp (maxSteps:=10^6)+contextual(disch:=try exact dqd)only[ev1,simprocAttr,Ca,Bm,Cb,results196,digA];refine loop1 (P:=prog) (fun x st=>st.T.length=23/\(x.1<=(dig b).length)/\(x.2.1=a*lowV b x.1)/\getT st.T 0=digA (dig a)/\getT st.T 1=digA (dig b)/\getT st.T 5=.frz ((dig x.2.1).map digC) x.2.2/\getT st.T 6=.int (x.1:Nat)/\st.S=[]) (fun x=>(dig b).length - x.1) (fun x=>digA (dig (a*b))) (0,0,.nilc) ?_ ?_;case refine_2=>exact ⟨rfl,Cl _,by rw [Aly,Nat.mul_zero],rfl,rfl,rfl,rfl,rfl⟩
 rintro ⟨i,v,c⟩ ⟨T,S',tk',n'⟩ ⟨hl,hi,hv,e0,e1,e5,e6,eS⟩ IH;simp only at hi hv e0 e1 e5 e6 eS;subst eS;obtain ⟨g,hg,hT⟩:=Ar hl;rw [hg] at e0 e1 e5 e6;subst hT;clear hg hl;subst hv;by_cases hlt:i<(dig b).length
 ·have d1:decide ((i:Int)<((dig b).length:Int))=true:=aN
  obtain ⟨x,hx⟩:=Ac hlt;have hx':=B0 hx;have hxk:=Df (Bf b) hx;have dx:=A4 (i:=i) aA;have hD S tk k:=Zj S tk k a x.toNat i aA aA aA;rw [kM hxk.1] at hD;have e:a*lowV b i+a*x.toNat*10000 ^ i=a*lowV b (i+1):=by rw [Alx hx,Nat.mul_add,Nat.mul_assoc]
  have m1:(dig (a*lowV b i)).length<=90000:=Fp (Mt (Pd a (Alw b i))) (Nk ha hb);have m2:(dig (a*lowV b (i+1))).length<=90000:=Fp (Mt (Pd a (Alw b (i+1)))) (Nk ha hb);have m3:(dig (a*x.toNat*10000 ^ i)).length<=90000:=Fp (Mt aA) m2;have hP S tk k:=Agy S tk k (a*lowV b i) (a*x.toNat*10000 ^ i) c aA aA;rw [e] at hP;simp only [digA] at hD hP;simp (maxSteps:=10^6)+contextual(disch:=try exact dqd)only[ev1,simprocAttr,Ca,Bm,Cb,results196,digA,e0,e1,e5,e6,d1,hx',hD,hP,dx];exact IH (i+1,a*lowV b (i+1),.unk) _ aF ⟨rfl,aE,rfl,aB,aB,aB,aB,aB⟩
 ·have d1:decide ((i:Int)<((dig b).length:Int))=false:=aN
  have g9:i=(dig b).length:=aA
  subst g9;rw [Apj] at e5;simp (maxSteps:=10^6)+contextual(disch:=try exact dqd)only[ev1,simprocAttr,Ca,Bm,Cb,results196,digA,e0,e1,e5,e6,d1]
end
end
section
open Go Tryz
set_option maxHeartbeats 1000000
set_option maxRecDepth 100000
theorem Ady:∀ {l:List Int} {i:Nat} {x:Int},nth l i=some x->l.set i x=l
 | _ :: _,0,_,h=>dG
 | _ :: l,i+1,_,h=>by simp only [nth] at h; simp only [Sz,Ady h]
 | [],_,_,h=>bM
section
variable (S:List Ent) (tk:List Nat) (k:Nat)
theorem Zk (l:List Int) (id ep:Nat) (hlen:l.length<=1000000) (h:entAt S id ep=some (l.map numC)):cL prog 199 [.sref id ep 0 l.length 1] S tk k=some (.sref id ep 0 (Dm l).length 1,S,tk,k):=by
 refine opS func199 ntmps199 ?_;have hid:id<S.length:=by
  obtain ⟨e,h1,-⟩:=Du h;exact Bn h1
 simp (maxSteps:=10^6)+contextual(disch:=try exact dqd)only[evs1,simprocAttr,Ca,Bm,Cb,results199];refine Ada (P:=prog) (fun x st=>st.T.length=22/\(x<=l.length)/\(∀ j,x<=j->∀ x,nth l j=some x->x=0)/\getT st.T 0=.sref id ep 0 l.length 1/\getT st.T 3=.int (x:Nat)/\st.S=S/\st.tk=tk/\st.n=k) (fun x=>x) (fun x=>(.sref id ep 0 (Dm l).length 1,S,tk,k)) (l.length) ?_ ?_;case refine_2=>exact ⟨rfl,Ce _,Pp l,rfl,rfl,rfl,rfl,rfl⟩
 rintro n ⟨T,S',tk',n'⟩ ⟨hl,hn,hz,e0,e3,eS,eT,eN⟩ IH;subst eS eT eN;obtain ⟨g,hg,hT⟩:=Ar hl;rw [hg] at e0 e3;subst hT;clear hg hl;by_cases h0:n=0
 ·have d1:decide ((n:Int) > 0)=false:=aC
  have ht:=Gs hn hz (.inl h0);simp (maxSteps:=10^6)+contextual(disch:=try exact dqd)only[evs1,simprocAttr,Ca,Bm,Cb,results199,e0,e3,d1,Hy,bound,intN_cast,hn,Ce,Cl,Om,Nat.sub_zero,Ik];rw [ht]; simp [h0]
 ·have d1:decide ((n:Int) > 0)=true:=aC
  have hp:=Tk h0 aA;have ci:n - 1<l.length:=aA
  obtain ⟨x,hx⟩:=Ac ci;have hx':=Adh hx;by_cases iw:x=0
  ·have d2:(x == 0)=true:=cR
   simp (maxSteps:=10^6)+contextual(disch:=try exact dqd)only[evs1,simprocAttr,Ca,Bm,Cb,results199,e0,e3,d1,d2,hp,hx',h,ci,Fj,Fm];exact IH (n - 1) _ aF ⟨rfl,aE,Up hz hx iw,Za0u⟩
  ·have d2:(x == 0)=false:=cR
   have ht:=Gs hn hz (.inr ⟨x,hx,iw⟩);simp (maxSteps:=10^6)+contextual(disch:=try exact dqd)only[evs1,simprocAttr,Ca,Bm,Cb,results199,e0,e3,d1,d2,hp,hx',h,ci,Fj,Fm,Hy,bound,intN_cast,hn,Ce,Cl,Om,Nat.sub_zero,Ik];rw [ht]; simp; omega
theorem stepX {r X n:Nat} (hr:(dig r).length<=n) (hX:X<10000*r+10000):(dig X).length<=n+1:=by
 rw [Bg] at hr ⊢;rw [Oz]; omega
theorem Apk {lo hi:Nat} (h:lo<hi) (hh:hi<10000):(((lo:Int)+(hi:Int))+1).tdiv 2=(((lo+hi+1) / 2:Nat):Int):=by
 rw [Cz aA]; omega
theorem Xh (A B:Nat) (ha:(dig A).length<=90000) (a2l:(dig B).length<=90000) (hB:0<B):cL prog 192 [digA (dig A),digA (dig B)] S tk k=some (.tup [digA (dig (A / B)),digA (dig (A % B))],S,tk,k):=by
 refine opP func192 ntmps192 (hp3:=rfl) ?_;have ya:(Bc prog 58).bind (Hq prog)=some 8:=aM
 have j7:=Al1 (P:=prog) (t:=58) (n:=(dig A).length) bF bF ya aA;have d3:=Hv (n:=(dig A).length) aA;have aj:=Pa.start (A:=A) (b:=(B:Int)) aA;simp (maxSteps:=10^6)+contextual(disch:=try exact dqd)only[ev1,simprocAttr,Ca,Bm,Cb,results192,digA,j7,d3];refine loop1 (P:=prog) (fun x st=>st.T.length=61/\(x.1<=(dig A).length)/\(Pa A B x.1 ((x.2.1:Nat):Int) x.2.2.1)/\(∀ j,j<x.1->nth x.2.2.1 j=some 0)/\getT st.T 0=digA (dig A)/\getT st.T 1=digA (dig B)/\getT st.T 6=.sref 0 0 0 (dig A).length 1/\getT st.T 7=.frz ((dig x.2.1).map digC) x.2.2.2/\getT st.T 8=.int ((x.1:Int) - 1)/\st.S=[⟨0,x.2.2.1.map numC⟩]) (fun x=>x.1) (fun x=>.tup [digA (dig (A / B)),digA (dig (A % B))]) ((dig A).length,0,Cg (dig A).length 0,.nilc) ?_ ?_;case refine_2=>exact ⟨rfl,Ce _,aj,fun j hj=>by rw [Af,List.getElem?_replicate,if_pos hj],rfl,rfl,rfl,rfl,rfl,rfl⟩
 rintro ⟨m,r,out,c⟩ ⟨T,S',tk',n'⟩ ⟨hl,hm,hp,hz,e0,e1,e6,e7,e8,eS⟩ IH;simp only at hm hp hz e0 e1 e6 e7 e8 eS;subst eS;obtain ⟨g,hg,hT⟩:=Ar hl;rw [hg] at e0 e1 e6 e7 e8;subst hT;clear hg hl;have OUT:=IH;clear IH;have hlen:=hp.len;by_cases h0:m=0
 ·have d2:decide ((m:Int) - 1 >= 0)=false:=aC
  subst h0;obtain ⟨q1,q2⟩:=hp.done;have hT tk k:=Zk [⟨0,out.map numC⟩] tk k out 0 0 aA rfl;have wy:=Auv (m:=0) (id:=0) (ep:=0) (S:=[⟨0,out.map numC⟩]) (Cl _) rfl (Qm out);rw [<- Hp,q1] at wy;rw [hlen,q1] at hT;have q3:r=A % B:=by simpa using q2
  rw [q3] at e7;simp (maxSteps:=10^6)+contextual(disch:=try exact dqd)only[ev1,simprocAttr,Ca,Bm,Cb,results192,digA,e0,e1,e6,e7,e8,d2,hT,wy]
 have d2:decide ((m:Int) - 1 >= 0)=true:=aC
 have hi:(m:Int) - 1=((m - 1:Nat):Int):=aA
 obtain ⟨x,hx⟩:=Ac (show m - 1<(dig A).length by omega);have hx':=B0 hx;have hxk:=Df (Bf A) hx;have ho:=hz (m - 1) aA;have hrB:r<B:=by have:=hp.r0; omega
 have i5:(dig r).length<=90000:=Fp (Mt (Nat.le_of_lt hrB)) a2l;obtain ⟨hq,g1,g2,g3,g4⟩:=hp.step h0 hm hx;obtain ⟨X,hX⟩:∃ X:Nat,X=r*10000+x.toNat:=⟨_,rfl⟩;have hXi:((r:Nat):Int)*10000+x=(X:Int):=aA
 rw [hXi] at hq g1 g2 g3 g4;have sy:((X:Nat):Int).tdiv (B:Int)=((X / B:Nat):Int):=by
  rw [Cz (Ow _),<- Int.natCast_ediv]
 have qh:((X:Nat):Int).tmod (B:Int)=((X % B:Nat):Int):=by
  rw [F7 (Ow _),<- Int.natCast_emod]
 rw [sy,qh] at hq;rw [sy] at g1 g2;have hQ9:X / B<10000:=by have:=Int.ofNat_lt.1 g2; exact this
 clear g1 g2 g3 g4 sy qh;have ye:X - B*(X / B)=X % B:=by have:=O9 X B; omega
 have hXl:(dig X).length<=90000+1:=stepX i5 aA;obtain ⟨Q,hQd⟩:∃ Q,Q=X / B:=⟨_,rfl⟩;rw [<- hQd] at hq hQ9 ye;have htr:Dm (x :: dig r)=dig X:=by
  have hk:okD (x :: dig r):=fun d hd=>by
   rcases C4.1 hd with rfl|hd
   ·exact hxk
   ·exact Bf r d hd
  rw [D6 hk,val,Br];congr 1; omega
 have hT c S tk k:=R9 S tk k (x :: dig r) c aC;rw [htr] at hT;simp only [Cn,digC,digA] at hT;have bz:Db 1 ((dig r).map digC)=true:=Dv _;have ae:([[(.prim (.int .i64 x):AV)]]).length+((dig r).map digC).length<=1048576:=aC
 have hok1:Be tk' .tight 1=true:=rfl;have hpw:=Hv (n:=m - 1) aA;have hL S tk k:=Xg S tk k X B aA aA;have ft:∀ (v:Int) j,j<m - 1->nth (out.set (m - 1) v) j=some 0:=fun v j hj=>by
  have:=hz j aA;rw [Af] at this ⊢;rw [List.getElem?_set_ne aA]; exact this
 simp only [digA] at hL;rw [hi] at e8 d2;by_cases wc:X<B
 ·have b8:decide (X<B)=true:=by simpa using wc
  rw [b8] at hL;have hQ0:Q=0:=by rw [hQd,jW wc]
  subst hQ0;have hXm:X % B=X:=Se wc;have hz0:=ft 0;rw [show ((0:Nat):Int)=0 from rfl,Ady ho,hXm] at hq;rw [Ady ho] at hz0;simp (maxSteps:=10^6)+contextual(disch:=try exact dqd)only[ev1,simprocAttr,Ca,Bm,Cb,results192,digA,e0,e1,e6,e7,e8,d2,hx',hT,bz,hL,hpw,Mv];exact OUT (m - 1,X,out,.unk) _ aF ⟨rfl,aE,hq,hz0,aB,aB,aB,aB,aB,aB⟩
 have b8:decide (X<B)=false:=by simpa using wc
 rw [b8] at hL;simp (maxSteps:=10^6)+contextual(disch:=try exact dqd)only[ev1,simprocAttr,Ca,Bm,Cb,results192,digA,e0,e1,e6,e7,e8,d2,hx',hT,bz,hL,Mv];clear hT bz ae d3 htr aj;refine loop1 (P:=prog) (fun x st=>st.T.length=61/\(x.1<=Q)/\(Q<=x.2)/\(x.2<10000)/\getT st.T 0=digA (dig A)/\getT st.T 1=digA (dig B)/\getT st.T 6=.sref 0 0 0 (dig A).length 1/\getT st.T 7=digA (dig X)/\getT st.T 8=.int ((m - 1:Nat):Int)/\getT st.T 9=.int ((x.1:Nat):Int)/\getT st.T 10=.int ((x.2:Nat):Int)/\st.S=[⟨0,out.map numC⟩]) (fun x=>x.2 - x.1) (fun x=>.tup [digA (dig (A / B)),digA (dig (A % B))]) (0,9999) ?_ ?_;case refine_2=>exact ⟨rfl,Cl _,aA,aA,rfl,rfl,rfl,rfl,rfl,rfl,rfl,rfl⟩
 rintro ⟨lo,hi⟩ ⟨T,S',tk',n'⟩ ⟨hl,qx,hhi,h9,e0,e1,e6,e7,e8,e9,e10,eS⟩ IH;simp only at qx hhi h9 e0 e1 e6 e7 e8 e9 e10 eS;subst eS;obtain ⟨g,hg,hT⟩:=Ar hl;rw [hg] at e0 e1 e6 e7 e8 e9 e10;subst hT;clear hg hl;have a2m:(dig B).length<=100000:=aA
 by_cases hlt:lo<hi
 ·have d3:decide (((lo:Nat):Int)<((hi:Nat):Int))=true:=aN
  have f1:Cd.wrap ((lo:Int)+(hi:Int))=(lo:Int)+(hi:Int):=Aa aD;have f2:Cd.wrap ((lo:Int)+(hi:Int)+1)=(lo:Int)+(hi:Int)+1:=Aa aD;have f3:=Apk hlt h9;obtain ⟨mid,a3p⟩:∃ mid,mid=(lo+hi+1) / 2:=⟨_,rfl⟩;rw [<- a3p] at f3;have f4:Cd.wrap ((mid:Nat):Int)=(mid:Int):=Aa aD;have f5:Cd.wrap ((mid:Int) - 1)=((mid - 1:Nat):Int):=aS
  have ft:¬ ((2:Int)=0):=aA
  have u9 S tk k:=Wj S tk k B mid aA a2m;have hBm:(dig (B*mid)).length<=100000:=by
   have h9:=Nk (X:=B) (Y:=mid) a2l (n:=1) (Bg.2 aA); omega
  have hC S tk k:=Xg S tk k X (B*mid) aA aA;simp only [digA] at u9 hC;by_cases hle:B*mid<=X
  ·have d4:decide (X<B*mid)=false:=aC
   rw [d4] at hC;have hmQ:mid<=Q:=by rw [hQd,jQ hB,Iv]; exact hle
   simp (maxSteps:=10^6)+contextual(disch:=try exact dqd)only[ev1,simprocAttr,Ca,Bm,Cb,results192,digA,e0,e1,e6,e7,e8,e9,e10,d3,f1,f2,f3,f4,ft,u9,hC];exact IH (mid,hi) _ aF ⟨rfl,hmQ,hhi,h9,aB,aB,aB,aB,aB,aB,aB,aB⟩
  ·have d4:decide (X<B*mid)=true:=aC
   rw [d4] at hC;have hmQ:Q<mid:=by
    rw [hQd,I8 hB,Iv]; omega
   simp (maxSteps:=10^6)+contextual(disch:=try exact dqd)only[ev1,simprocAttr,Ca,Bm,Cb,results192,digA,e0,e1,e6,e7,e8,e9,e10,d3,f1,f2,f3,f4,f5,ft,u9,hC];exact IH (lo,mid - 1) _ aF ⟨rfl,qx,aE,aE,aB,aB,aB,aB,aB,aB,aB,aB⟩
 ·have d3:decide (((lo:Nat):Int)<((hi:Nat):Int))=false:=aN
  have a3q:lo=Q:=aA
  subst a3q;have u9 S tk k:=Wj S tk k B lo aA a2m;have hBQ:B*lo<=X:=by rw [hQd]; exact Nat.mul_div_le _ _
  have hM S tk k:=Tu S tk k X (B*lo) hBQ aA;rw [ye] at hM;simp only [digA] at u9 hM;have jo:=Ym (v:=(lo:Int)) ho;have g8:m - 1<(dig A).length:=aA
  simp (maxSteps:=10^6)+contextual(disch:=try exact dqd)only[ev1,simprocAttr,Ca,Bm,Cb,results192,digA,e0,e1,e6,e7,e8,e9,e10,d3,u9,hM,jo,g8,hpw,Fj];exact OUT (m - 1,X % B,out.set (m - 1) (lo:Int),.unk) _ aF ⟨rfl,aE,hq,ft (lo:Int),aB,aB,aB,aB,aB,aB⟩
theorem Wi (a b:Nat) (ha:(dig a).length<=90000) (hb:(dig b).length<=90000):cL prog 191 [digA (dig a),digA (dig b)] S tk k=some (digA (dig (a.gcd b)),S,tk,k):=by
 refine opP func191 ntmps191 ?_;simp (maxSteps:=10^6)+contextual(disch:=try exact dqd)only[ev1,simprocAttr,Ca,Bm,Cb,results191,digA];refine loop1 (P:=prog) (fun x st=>st.T.length=19/\(x.1.gcd x.2=a.gcd b)/\((dig x.1).length<=90000)/\((dig x.2).length<=90000)/\getT st.T 0=digA (dig x.1)/\getT st.T 1=digA (dig x.2)/\st.S=[]) (fun x=>x.2) (fun x=>digA (dig (a.gcd b))) (a,b) ?_ ?_;case refine_2=>exact ⟨rfl,rfl,ha,hb,rfl,rfl,rfl⟩
 rintro ⟨x,y⟩ ⟨T,S',tk',n'⟩ ⟨hl,hg,hx,hy,e0,e1,eS⟩ IH;simp only at hg hx hy e0 e1 eS;subst eS;obtain ⟨g,hg,hT⟩:=Ar hl;rw [hg] at e0 e1;subst hT;clear hg hl;by_cases h0:y=0
 ·subst h0;have d1:decide ((((dig 0).length:Nat):Int) > 0)=false:=rfl;rw [Nd] at hg;simp (maxSteps:=10^6)+contextual(disch:=try exact dqd)only[ev1,simprocAttr,Ca,Bm,Cb,results191,e0,e1,d1,digA];rw [hg]
 ·have hyl:0<(dig y).length:=Ic.2 fun h=>h0 (Ej.1 h);have d1:decide (((dig y).length:Int) > 0)=true:=aC
  have hQ S tk k:=Xh S tk k x y hx hy aA;simp only [digA] at hQ;have hlt:=Oq x (by omega:0<y);have hym:(dig (x % y)).length<=90000:=Fp (Bg.2 (Nat.lt_trans hlt (Bg.1 (Ce _)))) hy;have hgn:y.gcd (x % y)=a.gcd b:=Za0f
  simp (maxSteps:=10^6)+contextual(disch:=try exact dqd)only[ev1,simprocAttr,Ca,Bm,Cb,results191,e0,e1,d1,digA,hQ];exact Ya24
end
end
section
open Go Tryz
set_option maxRecDepth 100000
theorem Asp {n:Nat} : (decide ((dig n).length=1) && ((nth (dig n) 0).getD 0 == 1))=decide (n=1):=by
 rw [Vn];simp only [Ch,decide_eq_true_eq,beq_iff_eq];constructor
 ·rintro ⟨h1,h2⟩;have h3:val (dig n)=n:=Br n;match hd:dig n,h1 with
  | [x],_ =>
   rw [hd] at h2 h3;simp only [nth,Ol] at h2;simp only [val] at h3;omega
 ·rintro rfl;have qe:dig 1=[(1:Int)]:=Nl (d:=(1:Int)) aA aA;rw [qe];exact Ya45
section
variable (S:List Ent) (tk:List Nat) (k:Nat)
theorem Ei (x y:Int) (hx:(dig x.natAbs).length<=45000) (hy:(dig y.natAbs).length<=45000):cL prog 185 [zA x,zA y] S tk k=some (zA (x*y),S,tk,k):=by
 refine opP func185 ntmps185 (hp3:=rfl) ?_;have hT S tk k:=Ai0 S tk k x.natAbs y.natAbs hx hy;have hs:=Amx x y;have hp:=Jv (x.natAbs*y.natAbs);simp only [digA] at hT;rw [<- hs];have sv:(decide (x<0) != decide (y<0))=!(decide (x<0) == decide (y<0)):=rfl;rw [sv];cases d3:decide (x<0) == decide (y<0) with
 | true=>simp (maxSteps:=10^6)+contextual(disch:=try exact dqd)only[ev1,simprocAttr,Ca,Bm,Cb,results185,zA,bigA,digA,hT,d3,sv,hp,Gf,Hs,Fq,Ff]
 | false=>simp (maxSteps:=10^6)+contextual(disch:=try exact dqd)only[ev1,simprocAttr,Ca,Bm,Cb,results185,zA,bigA,digA,hT,d3,sv,hp,Gf,Hs,Fq,Ff]
theorem Aiz (p:Bool) (l:List Int) (q:Bool) (r:List Int) (hl:l.length<=1000000) (hr:r.length<=1000000):cL prog 189 [ratA p l q r] S tk k=some (.bool (J4 p l q r),S,tk,k):=by
 have ll S tk k:=told (E:=E1) (Zi S tk k p l .unk hl);have lm S tk k:=told (E:=E1) (Zi S tk k q r .unk hr);refine opP func189 ntmps189 (hp3:=rfl) ?_;unfold J4;cases h1:Dy p l with
 | false =>
  rw [h1] at ll;simp (maxSteps:=10^6)+contextual(disch:=try exact dqd)only[ev1,simprocAttr,Ca,Bm,Cb,results189,ratA,digA,ll,Ff]
 | true =>
 rw [h1] at ll;cases h2:Dy q r with
 | false =>
  rw [h2] at lm;simp (maxSteps:=10^6)+contextual(disch:=try exact dqd)only[ev1,simprocAttr,Ca,Bm,Cb,results189,ratA,digA,ll,lm,Ff,Fq]
 | true =>
 rw [h2] at lm;obtain ⟨hp,d9⟩:=G4 h1;obtain ⟨hq,sw⟩:=G4 h2;have lw:=(Jk h1).2.2;have i5:=(Jk h2).2.2;by_cases sx:q=true
 ·subst sx;have hg:M3 (V p l) (V true r)=false:=by
   have:V true r<0:=fL
   have h3:¬ 0<V true r:=aA
   simp [M3,h3]
  rw [hg];simp (maxSteps:=10^6)+contextual(disch:=try exact dqd)only[ev1,simprocAttr,Ca,Bm,Cb,results189,ratA,digA,ll,lm,Fq]
 ·have hqf:q=false:=by simpa using sx
  subst hqf;have dd:0<=V false r:=by
   have:¬ V false r<0:=fL
   omega
  by_cases cq:r=[]
  ·subst cq;have hg:M3 (V p l) (V false [])=false:=by
    have:V false []=0:=Za4o
    simp [M3,this]
   rw [hg];simp only [Cs] at lm;have iz:(((0:Nat):Int) == 0)=true:=rfl;simp (maxSteps:=10^6)+contextual(disch:=try exact dqd)only[ev1,simprocAttr,Ca,Bm,Cb,results189,ratA,digA,ll,lm,iz,Fq]
  ·have wb:(((r.length:Nat):Int) == 0)=false:=by
    exact Ya3b
   have hd1:0<V false r:=by
    have:(V false r).natAbs≠0:=fun e=>cq (by rw [sw,e,B3]);omega
   have hgd:M3 (V p l) (V false r)=decide ((V p l).natAbs.gcd (V false r).natAbs=1):=by simp [M3,hd1]
   rw [hgd,<- Asp];have hD S tk k:=Wi S tk k (V p l).natAbs (V false r).natAbs (by rw [<- d9]; omega) (by rw [<- sw]; omega);rw [<- d9,<- sw] at hD;simp only [digA] at hD;obtain ⟨g,hg⟩:∃ g,g=(V p l).natAbs.gcd (V false r).natAbs:=⟨_,rfl⟩;rw [<- hg] at hD ⊢;by_cases hg1:(dig g).length=1
   ·have g1:(((dig g).length:Int) == 1)=true:=by rw [hg1]; rfl
    obtain ⟨x,hx⟩:=Ac (show 0<(dig g).length by omega);have hx':=B0 hx;rw [hx,Ol];have g2:decide ((dig g).length=1)=true:=by simpa using hg1
    rw [g2];simp (maxSteps:=10^6)+contextual(disch:=try exact dqd)only[ev1,simprocAttr,Ca,Bm,Cb,results189,ratA,digA,ll,lm,wb,hD,g1,hx',Fq]
   ·have g1:(((dig g).length:Int) == 1)=false:=aC
    have g2:decide ((dig g).length=1)=false:=by simpa using hg1
    rw [g2];simp (maxSteps:=10^6)+contextual(disch:=try exact dqd)only[ev1,simprocAttr,Ca,Bm,Cb,results189,ratA,digA,ll,lm,wb,hD,g1,Ff,Fq]
theorem Hj (p:Bool) (l:List Int) (q:Bool) (r:List Int) (hl:l.length<=1000000) (hr:r.length<=1000000):cL prog 182 [ratA p l q r] S tk k=some (qA (nQ p l q r) (dQ p l q r),S,tk,k):=by
 have hV S tk k:=Aiz S tk k p l q r hl hr;have hZ S tk k:=An1 S tk k;refine opP func182 ntmps182 (hp3:=rfl) ?_;unfold nQ dQ;cases h:J4 p l q r with
 | true =>
  rw [h] at hV;have e:=W8 h;simp only [if_true];rw [<- e];simp only [ratA,digA] at hV;simp (maxSteps:=10^6)+contextual(disch:=try exact dqd)only[ev1,simprocAttr,Ca,Bm,Cb,results182,ratA,digA,hV]
 | false =>
  rw [h] at hV;simp only [C6,if_false];simp only [ratA,qA,digA] at hV hZ;simp (maxSteps:=10^6)+contextual(disch:=try exact dqd)only[ev1,simprocAttr,Ca,Bm,Cb,results182,ratA,qA,digA,hV,hZ]
theorem Qq (n d:Int) (hn:(dig n.natAbs).length<=90000) (hd:(dig d.natAbs).length<=90000):cL prog 183 [zA n,zA d] S tk k=some (resQ n d,S,tk,k):=by
 refine opP func183 ntmps183 (hp3:=rfl) ?_;have hz:dig 0=[]:=B3;have yd:decide ((0:Int)<0)=false:=aP
 by_cases dd:d=0
 ·subst dd;rw [Qf];have iz:(((0:Nat):Int) == 0)=true:=rfl;simp (maxSteps:=10^6)+contextual(disch:=try exact dqd)only[ev1,simprocAttr,Ca,Bm,Cb,results183,zA,bigA,qA,ratA,digA,hz,yd,iz]
 have i0:(((dig d.natAbs).length:Int) == 0)=false:=by
  have:dig d.natAbs≠[]:=fun e=>Za5v
  exact Ya1j
 have lg:0<n.natAbs.gcd d.natAbs:=Iq _ aA;have hD S tk k:=Wi S tk k n.natAbs d.natAbs hn hd;have hgl:(dig (n.natAbs.gcd d.natAbs)).length<=90000:=by
  exact Ya15
 have sy S tk k:=Xh S tk k n.natAbs (n.natAbs.gcd d.natAbs) hn hgl lg;have qh S tk k:=Xh S tk k d.natAbs (n.natAbs.gcd d.natAbs) hd hgl lg;have hla:=Q6 n d;have hlb:(lowD n d).natAbs=d.natAbs / n.natAbs.gcd d.natAbs:=rfl;have hs:=Afw n d dd;have hp:=Jv (n.natAbs / n.natAbs.gcd d.natAbs);have hdn:decide (lowD n d<0)=false:=by
  have:¬ lowD n d<0:=by unfold lowD; omega
  simp [this]
 unfold resQ resN resD;simp only [digA] at hD sy qh;by_cases h1:(dig (n.natAbs / n.natAbs.gcd d.natAbs)).length<=200
 ·have d1:decide (((dig (n.natAbs / n.natAbs.gcd d.natAbs)).length:Int) > 200)=false:=aC
  by_cases h2:(dig (d.natAbs / n.natAbs.gcd d.natAbs)).length<=200
  ·have d2:decide (((dig (d.natAbs / n.natAbs.gcd d.natAbs)).length:Int) > 200)=false:=aC
   have hf:Er n d=true:=dH
   rw [hf];simp only [if_true,qA,hla,hlb,<- hs,hdn];have sv:(decide (n<0) != decide (d<0))=!(decide (n<0) == decide (d<0)):=rfl;rw [sv];cases d3:decide (n<0) == decide (d<0) with
   | true=>simp (maxSteps:=10^6)+contextual(disch:=try exact dqd)only[ev1,simprocAttr,Ca,Bm,Cb,results183,zA,bigA,ratA,digA,hD,sy,qh,i0,d1,d2,d3,sv,hp,Gf,Hs,Fq,Ff]
   | false=>simp (maxSteps:=10^6)+contextual(disch:=try exact dqd)only[ev1,simprocAttr,Ca,Bm,Cb,results183,zA,bigA,ratA,digA,hD,sy,qh,i0,d1,d2,d3,sv,hp,Gf,Hs,Fq,Ff]
  ·have d2:decide (((dig (d.natAbs / n.natAbs.gcd d.natAbs)).length:Int) > 200)=true:=aC
   have hf:Er n d=false:=dH
   rw [hf];simp only [C6,if_false];simp (maxSteps:=10^6)+contextual(disch:=try exact dqd)only[ev1,simprocAttr,Ca,Bm,Cb,results183,zA,bigA,qA,ratA,digA,hz,hD,sy,qh,i0,d1,d2]
 ·have d1:decide (((dig (n.natAbs / n.natAbs.gcd d.natAbs)).length:Int) > 200)=true:=aC
  have hf:Er n d=false:=dH
  rw [hf];simp only [C6,if_false];simp (maxSteps:=10^6)+contextual(disch:=try exact dqd)only[ev1,simprocAttr,Ca,Bm,Cb,results183,zA,bigA,qA,ratA,digA,hz,hD,sy,qh,i0,d1]
theorem Arl (p1:Bool) (l1:List Int) (q1:Bool) (r1:List Int) (p2:Bool) (l2:List Int) (q2:Bool) (r2:List Int) (h1:l1.length<=1000000) (h2:r1.length<=1000000) (h3:l2.length<=1000000) (h4:r2.length<=1000000) :
  cL prog 176 [ratA p1 l1 q1 r1,ratA p2 l2 q2 r2] S tk k=some (resQ (nQ p1 l1 q1 r1*dQ p2 l2 q2 r2+nQ p2 l2 q2 r2*dQ p1 l1 q1 r1) (dQ p1 l1 q1 r1*dQ p2 l2 q2 r2),S,tk,k):=by
 have hA S tk k:=Hj S tk k p1 l1 q1 r1 h1 h2;have hB S tk k:=Hj S tk k p2 l2 q2 r2 h3 h4;have gA:=Ez p1 l1 q1 r1;have gB:=Ez p2 l2 q2 r2;generalize nQ p1 l1 q1 r1=a at *;generalize dQ p1 l1 q1 r1=b at *;generalize nQ p2 l2 q2 r2=c at *;generalize dQ p2 l2 q2 r2=d at *;refine opP func176 ntmps176 (hp3:=rfl) ?_;have l1:=gA.ln;have l2:=gA.ld;have l3:=gB.ln;have l4:=gB.ld;have bc S tk k:=Ei S tk k a d aA aA;have ah S tk k:=Ei S tk k b d aA aA;have c9 S tk k:=Ei S tk k c b aA aA;have m1:=D0 l1 l4;have m2:=D0 l2 l4;have m3:=D0 l3 l2;have hP S tk k:=Zl S tk k (a*d) (c*b) aA aA;have m4:=Afs (x:=a*d) (y:=c*b) (a:=45000) aA aA;have hR S tk k:=Qq S tk k (a*d+c*b) (b*d) aA aA;simp only [zA,bigA,digA] at bc ah c9 hP hR;simp only [resQ,qA,ratA,digA] at hA hB hR ⊢;simp (maxSteps:=10^6)+contextual(disch:=try exact dqd)only[ev1,simprocAttr,Ca,Bm,Cb,results176,ratA,digA,hA,hB,bc,ah,c9,hP,hR]
theorem Aix (p1:Bool) (l1:List Int) (q1:Bool) (r1:List Int) (p2:Bool) (l2:List Int) (q2:Bool) (r2:List Int) (h1:l1.length<=1000000) (h2:r1.length<=1000000) (h3:l2.length<=1000000) (h4:r2.length<=1000000) :
  cL prog 197 [ratA p1 l1 q1 r1,ratA p2 l2 q2 r2] S tk k=some (resQ (nQ p1 l1 q1 r1*nQ p2 l2 q2 r2) (dQ p1 l1 q1 r1*dQ p2 l2 q2 r2),S,tk,k):=by
 have hA S tk k:=Hj S tk k p1 l1 q1 r1 h1 h2;have hB S tk k:=Hj S tk k p2 l2 q2 r2 h3 h4;have gA:=Ez p1 l1 q1 r1;have gB:=Ez p2 l2 q2 r2;generalize nQ p1 l1 q1 r1=a at *;generalize dQ p1 l1 q1 r1=b at *;generalize nQ p2 l2 q2 r2=c at *;generalize dQ p2 l2 q2 r2=d at *;refine opP func197 ntmps197 (hp3:=rfl) ?_;have l1:=gA.ln;have l2:=gA.ld;have l3:=gB.ln;have l4:=gB.ld;have bc S tk k:=Ei S tk k a c aA aA;have ah S tk k:=Ei S tk k b d aA aA;have m1:=D0 l1 l3;have m2:=D0 l2 l4;have hR S tk k:=Qq S tk k (a*c) (b*d) aA aA;simp only [zA,bigA,digA] at bc ah hR;simp only [resQ,qA,ratA,digA] at hA hB hR ⊢;simp (maxSteps:=10^6)+contextual(disch:=try exact dqd)only[ev1,simprocAttr,Ca,Bm,Cb,results197,ratA,digA,hA,hB,bc,ah,hR]
theorem Acd (p1:Bool) (l1:List Int) (q1:Bool) (r1:List Int) (p2:Bool) (l2:List Int) (q2:Bool) (r2:List Int) (h1:l1.length<=1000000) (h2:r1.length<=1000000) (h3:l2.length<=1000000) (h4:r2.length<=1000000) :
  cL prog 187 [ratA p1 l1 q1 r1,ratA p2 l2 q2 r2] S tk k=some (resQ (nQ p1 l1 q1 r1*dQ p2 l2 q2 r2) (dQ p1 l1 q1 r1*nQ p2 l2 q2 r2),S,tk,k):=by
 have hA S tk k:=Hj S tk k p1 l1 q1 r1 h1 h2;have hB S tk k:=Hj S tk k p2 l2 q2 r2 h3 h4;have gA:=Ez p1 l1 q1 r1;have gB:=Ez p2 l2 q2 r2;generalize nQ p1 l1 q1 r1=a at *;generalize dQ p1 l1 q1 r1=b at *;generalize nQ p2 l2 q2 r2=c at *;generalize dQ p2 l2 q2 r2=d at *;refine opP func187 ntmps187 (hp3:=rfl) ?_;have l1:=gA.ln;have l2:=gA.ld;have l3:=gB.ln;have l4:=gB.ld;have bc S tk k:=Ei S tk k a d aA aA;have ah S tk k:=Ei S tk k b c aA aA;have m1:=D0 l1 l4;have m2:=D0 l2 l3;have hR S tk k:=Qq S tk k (a*d) (b*c) aA aA;simp only [zA,bigA,digA] at bc ah hR;simp only [resQ,qA,ratA,digA] at hA hB hR ⊢;simp (maxSteps:=10^6)+contextual(disch:=try exact dqd)only[ev1,simprocAttr,Ca,Bm,Cb,results187,ratA,digA,hA,hB,bc,ah,hR]
theorem Rm (p:Bool) (l:List Int) (q:Bool) (r:List Int) (hl:l.length<=1000000) (hr:r.length<=1000000):cL prog 177 [ratA p l q r] S tk k=some (qA (-nQ p l q r) (dQ p l q r),S,tk,k):=by
 have hA S tk k:=Hj S tk k p l q r hl hr;generalize nQ p l q r=a at *;generalize dQ p l q r=b at *;refine opP func177 ntmps177 (hp3:=rfl) ?_;have hz:=zneg a;have hp:=Jv a.natAbs;simp only [qA,ratA,digA] at hA ⊢;rw [<- hz,Int.natAbs_neg];by_cases ha:a<0
 ·have d1:decide (a<0)=true:=gK
  rw [d1] at hA ⊢;simp (maxSteps:=10^6)+contextual(disch:=try exact dqd)only[ev1,simprocAttr,Ca,Bm,Cb,results177,hA,hp,Gf,Ff]
 ·have d1:decide (a<0)=false:=gK
  rw [d1] at hA ⊢;simp (maxSteps:=10^6)+contextual(disch:=try exact dqd)only[ev1,simprocAttr,Ca,Bm,Cb,results177,hA,hp,Hs,Fq]
theorem Aiy (p1:Bool) (l1:List Int) (q1:Bool) (r1:List Int) (p2:Bool) (l2:List Int) (q2:Bool) (r2:List Int) (h1:l1.length<=1000000) (h2:r1.length<=1000000) (h3:l2.length<=1000000) (h4:r2.length<=1000000) :
  cL prog 168 [ratA p1 l1 q1 r1,ratA p2 l2 q2 r2] S tk k=some (resQ (nQ p1 l1 q1 r1*dQ p2 l2 q2 r2+-nQ p2 l2 q2 r2*dQ p1 l1 q1 r1) (dQ p1 l1 q1 r1*dQ p2 l2 q2 r2),S,tk,k):=by
 have hO S tk k:=Rm S tk k p2 l2 q2 r2 h3 h4;have gB:=(Ez p2 l2 q2 r2).neg;generalize nQ p2 l2 q2 r2=c at *;generalize dQ p2 l2 q2 r2=d at *;have hA S tk k:=Arl S tk k p1 l1 q1 r1 (decide (-c<0)) (dig (-c).natAbs) (decide (d<0)) (dig d.natAbs) h1 h2 (by have:=gB.ln; omega) (by have:=gB.ld; omega);rw [gB.nQ,gB.dQ] at hA;refine opP func168 ntmps168 (hp3:=rfl) ?_;simp only [resQ,qA,ratA,digA] at hO hA ⊢;simp (maxSteps:=10^6)+contextual(disch:=try exact dqd)only[ev1,simprocAttr,Ca,Bm,Cb,results168,hO,hA]
theorem Aiw (p1:Bool) (l1:List Int) (q1:Bool) (r1:List Int) (p2:Bool) (l2:List Int) (q2:Bool) (r2:List Int) (h1:l1.length<=1000000) (h2:r1.length<=1000000) (h3:l2.length<=1000000) (h4:r2.length<=1000000) :
  cL prog 186 [ratA p1 l1 q1 r1,ratA p2 l2 q2 r2] S tk k=some (.int (cmpZ (nQ p1 l1 q1 r1*dQ p2 l2 q2 r2) (nQ p2 l2 q2 r2*dQ p1 l1 q1 r1)),S,tk,k):=by
 have hA S tk k:=Hj S tk k p1 l1 q1 r1 h1 h2;have hB S tk k:=Rm S tk k p2 l2 q2 r2 h3 h4;have gA:=Ez p1 l1 q1 r1;have gB:=(Ez p2 l2 q2 r2).neg;generalize nQ p1 l1 q1 r1=a at *;generalize dQ p1 l1 q1 r1=b at *;generalize nQ p2 l2 q2 r2=c at *;generalize dQ p2 l2 q2 r2=d at *;refine opP func186 ntmps186 (hp3:=rfl) ?_;have l1:=gA.ln;have l2:=gA.ld;have l3:=gB.ln;have l4:=gB.ld;have bc S tk k:=Ei S tk k a d aA aA;have ah S tk k:=Ei S tk k (-c) b aA aA;have m1:=D0 l1 l4;have m2:=D0 l3 l2;have hP S tk k:=Zl S tk k (a*d) (-c*b) aA aA;have e:a*d+-c*b=a*d - c*b:=by rw [Sy]; omega
 rw [e] at hP;simp only [zA,bigA,digA] at bc ah hP;simp only [qA,ratA,digA] at hA hB;generalize a*d=x at *;generalize c*b=y at *;by_cases g1:x=y
 ·have d0:dig (x - y).natAbs=[]:=by rw [g1]; simp [B3]
  have d1:(((dig (x - y).natAbs).length:Int) == 0)=true:=by rw [d0]; rfl
  rw [Acq g1];exact Ya04
 ·have d1:(((dig (x - y).natAbs).length:Int) == 0)=false:=by
   have:dig (x - y).natAbs≠[]:=fun e=>Za5v
   exact Ya1j
  by_cases g2:x<y
  ·have d2:decide (x - y<0)=true:=aC
   rw [d2] at hP;rw [Acs g2];exact Ya04
  ·have d2:decide (x - y<0)=false:=aC
   rw [d2] at hP;rw [Acr aA];exact Ya04
end
end
section
open Go
theorem Te {n d:Int} (hd:d≠0):(lowN n d).natAbs.gcd (lowD n d).natAbs=1:=by
 rw [Q6,show (lowD n d).natAbs=d.natAbs / n.natAbs.gcd d.natAbs from rfl];have hg:0<n.natAbs.gcd d.natAbs:=Iq _ aA;rw [Nat.gcd_div (Nat.gcd_dvd_left _ _) (Nat.gcd_dvd_right _ _)];exact Nat.div_self hg
theorem P2 {n d:Int} (hd:d≠0):0<lowD n d:=by
 have hg:0<n.natAbs.gcd d.natAbs:=Iq _ aA;have h2:n.natAbs.gcd d.natAbs<=d.natAbs:=jY _ aA;have:=Nat.div_pos h2 hg;unfold lowD; omega
theorem Lq {n d:Int} (hd:d≠0):lowN n d*d=n*lowD n d:=by
 have hg:0<n.natAbs.gcd d.natAbs:=Iq _ aA;obtain ⟨g,hgd⟩:∃ g:Nat,g=n.natAbs.gcd d.natAbs:=⟨_,rfl⟩;have h1:(g:Int) ∣ n:=by rw [hgd]; exact Int.ofNat_dvd_left.2 (Nat.gcd_dvd_left _ _)
 have h2:(g:Int) ∣ d:=by rw [hgd]; exact Int.ofNat_dvd_left.2 (Nat.gcd_dvd_right _ _)
 obtain ⟨a,ha⟩:=h1;obtain ⟨b,hb⟩:=h2;have lg:(g:Int)≠0:=aA
 have hN:lowN n d=if d<0 then -a else a:=by
  unfold lowN;rw [<- hgd];split
  ·rw [ha,Int.neg_tdiv,Int.mul_tdiv_cancel_left _ lg]
  ·rw [ha,Int.mul_tdiv_cancel_left _ lg]
 have hD:lowD n d=if d<0 then -b else b:=by
  unfold lowD;rw [<- hgd];have:d.natAbs=g*b.natAbs:=by rw [hb,Im]; simp
  rw [this,Nat.mul_div_cancel_left _ aA];have hs:d<0↔b<0:=by
   rw [hb];constructor
   ·intro h;rcases Int.lt_or_le b 0 with h'|h'
    ·exact h'
    ·have:=Sl (show (0:Int)<=g by omega) h'; omega
   ·intro h;exact Int.mul_neg_of_pos_of_neg aA h
  split <;> omega
 rw [hN,hD];generalize (g:Int)=G at *;subst ha hb;split
 ·rw [Sy,Int.mul_neg,<- G0,Fu a G]
 ·rw [<- G0,Fu a G]
theorem P3 {a b c d:Int} (hb:0<b) (hd:0<d) (h1:a.natAbs.gcd b.natAbs=1) (h2:c.natAbs.gcd d.natAbs=1) (h:a*d=c*b):a=c/\b=d:=by
 have e:=congrArg Int.natAbs h;rw [Im,Im] at e;have k1:d.natAbs ∣ b.natAbs:=(Nat.Coprime.dvd_of_dvd_mul_left (Nat.Coprime.symm h2) ⟨a.natAbs,by rw [<- e,Iv]⟩);have k2:b.natAbs ∣ d.natAbs:=(Nat.Coprime.dvd_of_dvd_mul_left (Nat.Coprime.symm h1) ⟨c.natAbs,by rw [e,Iv]⟩);have u7:b.natAbs=d.natAbs:=Nat.dvd_antisymm k2 k1;have a3r:b=d:=aA
 subst a3r;exact ⟨Int.eq_of_mul_eq_mul_right aA h,rfl⟩
theorem Jm.low {n d:Int} (h:Jm n d):lowN n d=n/\lowD n d=d:=by
 have hd:=h.pos;exact P3 (P2 aA) hd (Te aA) h.cop (Lq aA)
theorem Au5 {n d n' d':Int} (hd:d≠0) (fm:d'≠0) (h:n*d'=n'*d):lowN n d=lowN n' d'/\lowD n d=lowD n' d':=by
 refine P3 (P2 hd) (P2 fm) (Te hd) (Te fm) ?_;have h1:=Lq (n:=n) hd;have h2:=Lq (n:=n') fm;have h3:(lowN n d*lowD n' d')*(d*d')=(lowN n' d'*lowD n d)*(d*d'):=by
  generalize lowN n d=a at *;generalize lowD n d=b at *;generalize lowN n' d'=a' at *;generalize lowD n' d'=b' at *;have e1:(a*b')*(d*d')=(n*d')*(b*b'):=by
   have:(a*b')*(d*d')=(a*d)*(b'*d'):=aK
   rw [this,h1]; grind
  have e2:(a'*b)*(d*d')=(n'*d)*(b*b'):=by
   have:(a'*b)*(d*d')=(a'*d')*(b*d):=aK
   rw [this,h2]; grind
  rw [e1,e2,h]
 exact Int.eq_of_mul_eq_mul_right (Ii hd fm) h3
theorem Asl {n d n' d':Int} (hd:d≠0) (fm:d'≠0) (h:n*d'=n'*d):Er n d=Er n' d'/\resN n d=resN n' d'/\resD n d=resD n' d':=by
 obtain ⟨h1,h2⟩:=Au5 hd fm h;have hf:Er n d=Er n' d':=by
  unfold Er;rw [h1,h2];simp [hd,fm]
 exact ⟨hf,by unfold resN; rw [hf,h1],by unfold resD; rw [hf,h2]⟩
theorem Ac3 {n d:Int} (h:Er n d=true):d≠0:=by
 unfold Er at h;simp at h;exact h.1.1
theorem Agc {n d:Int} (h:Er n d=true):Jm (resN n d) (resD n d):=by
 have hd:=Ac3 h;unfold resN resD;rw [h];simp only [if_true];refine ⟨P2 hd,Te hd,?_,?_⟩
 ·unfold Er okZ at h; simp at h; exact h.1.2
 ·unfold Er okZ at h; simp at h; exact h.2
theorem Amq {n d:Int} (h:Er n d=true):resN n d*d=n*resD n d:=by
 have hd:=Ac3 h;unfold resN resD;rw [h];exact Lq hd
theorem Jm.fits {n d:Int} (h:Jm n d):Er n d=true/\resN n d=n/\resD n d=d:=by
 obtain ⟨h1,h2⟩:=h.low;have hf:Er n d=true:=by
  unfold Er okZ;rw [h1,h2];have:=h.pos;simp only [Ch,Ih,decide_eq_false_iff_not,decide_eq_true_eq];have h8:=h.ln;have h9:=h.ld;exact ⟨⟨aA,aA⟩,aA⟩
 exact ⟨hf,by unfold resN; rw [hf,h1]; rfl,by unfold resD; rw [hf,h2]; rfl⟩
theorem Ap0 {n d:Int} (h:Er n d=false):resN n d=0/\resD n d=0:=by
 unfold resN resD; rw [h];exact Ya45
abbrev Q:=Int × Int
structure Fld where
 whole:Int->Q × Bool
 minus:Q->Q->Q × Bool
 times:Q->Q->Q × Bool
 over:Q->Q->Q × Bool
 ok:Q->Prop
 rat:Q->Q
 stop:Bool
def sgn (a:Q):Int:=if a.1<0 then -1 else if 0<a.1 then 1 else 0
def bigF (n d:Int):Bool:=decide (n<=-2147483648) || decide (n >= 2147483648) || decide (d >= 2147483648) || decide (d=0)
def qn (n d:Int):Q × Bool:=if bigF (lowN n d) (lowD n d)=true then ((0,1),true) else ((lowN n d,lowD n d),false)
def okS (a:Q):Prop:=-2147483648<a.1/\a.1<2147483648/\0<a.2/\a.2<2147483648
def QQ.qF:Fld where
 whole n:=if n<=-2147483648\/n >= 2147483648 then ((0,1),true) else ((n,1),false)
 minus a b:=qn (a.1*b.2 - b.1*a.2) (a.2*b.2)
 times a b:=qn (a.1*b.1) (a.2*b.2)
 over a b:=if b.1=0 then ((0,1),true) else qn (a.1*b.2) (a.2*b.1)
 ok:=okS
 rat a:=(resN a.1 a.2,resD a.1 a.2)
 stop:=true
def wn (n d:Int):Q × Bool:=((resN n d,resD n d),!Er n d)
def qz (a:Q):Q:=if a.2=0 then (0,1) else a
def okW (a:Q):Prop:=Jm a.1 a.2\/a=(0,0)
def WW.qF:Fld where
 whole n:=((n,1),false)
 minus a b:=wn ((qz a).1*(qz b).2+-(qz b).1*(qz a).2) ((qz a).2*(qz b).2)
 times a b:=wn ((qz a).1*(qz b).1) ((qz a).2*(qz b).2)
 over a b:=wn ((qz a).1*(qz b).2) ((qz a).2*(qz b).1)
 ok:=okW
 rat a:=a
 stop:=false
theorem Aax:Jm 0 1:=⟨aP,rfl,aX,aX⟩
theorem Avq {n d:Int} (h:Jm n d):qz (n,d)=(n,d):=by
 have:=h.pos;unfold qz; rw [if_neg bT]
theorem qz_n {a:Q} (h:okW a):nQ (decide (a.1<0)) (dig a.1.natAbs) (decide (a.2<0)) (dig a.2.natAbs)=(qz a).1/\dQ (decide (a.1<0)) (dig a.1.natAbs) (decide (a.2<0)) (dig a.2.natAbs)=(qz a).2:=by
 rcases h with h|rfl
 ·obtain ⟨n,d⟩:=a;rw [Avq h];exact ⟨h.nQ,h.dQ⟩
 ·refine ⟨?_,?_⟩ <;> decide +kernel
theorem Gm {a:Q} (h:okW a):(dig a.1.natAbs).length<=200/\(dig a.2.natAbs).length<=200:=by
 rcases h with h|rfl
 ·exact ⟨h.ln,h.ld⟩
 ·refine ⟨?_,?_⟩ <;> decide +kernel
theorem Avv {a:Q} (h:okW a):sgn (qz a)=sgn a:=by
 rcases h with h|rfl
 ·obtain ⟨n,d⟩:=a;rw [Avq h]
 ·rfl
theorem Atg (n d:Int):okW (wn n d).1:=by
 unfold wn;cases h:Er n d with
 | true=>exact .inl (Agc h)
 | false=>obtain ⟨h1,h2⟩:=Ap0 h; rw [h1,h2]; exact .inr rfl
theorem Ahv (n d:Int):0<=lowD n d:=Ow _
theorem Apu (n d:Int):okS (qn n d).1:=by
 unfold qn bigF;split
 ·exact ⟨aP,aP,aP,aP⟩
 ·rename_i h;simp only [Ib,decide_eq_true_eq] at h;have:=Ahv n d;refine ⟨?_,?_,?_,?_⟩ <;> simp only <;> omega
structure Fld.Keeps (F:Fld):Prop where
 whole:∀ n,i64 n->F.ok (F.whole n).1
 minus:∀ a b,F.ok a->F.ok b->F.ok (F.minus a b).1
 times:∀ a b,F.ok a->F.ok b->F.ok (F.times a b).1
 over:∀ a b,F.ok a->F.ok b->F.ok (F.over a b).1
theorem QQ.Dp:QQ.qF.Keeps:=by
 refine ⟨fun n _=>?_,fun a b _ _=>Apu _ _,fun a b _ _=>Apu _ _,fun a b _ _=>?_⟩
 ·simp only [QQ.qF];split
  ·exact ⟨aP,aP,aP,aP⟩
  ·refine ⟨?_,?_,?_,?_⟩ <;> simp only <;> omega
 ·simp only [QQ.qF];split
  ·exact ⟨aP,aP,aP,aP⟩
  ·exact Apu _ _
theorem WW.Dp:WW.qF.Keeps:=by
 refine ⟨fun n hn=>.inl ?_,fun a b _ _=>Atg _ _,fun a b _ _=>Atg _ _,fun a b _ _=>Atg _ _⟩;simp only [WW.qF];have h1:(dig (1:Int).natAbs).length<=200:=aX
 refine ⟨by simp,by simp,?_,h1⟩;refine Bg.2 ?_;unfold i64 at hn;exact Ya2x
end
section
open Go Tryz
set_option maxHeartbeats 4000000
set_option maxRecDepth 100000
def frA (a:Q):AV:=.agg [.int a.1,.int a.2]
def QQ.flS (S:List Ent) (iq eq:Nat) (b:Bool):List Ent:=bif b then put S iq ⟨eq,[.prim (.bool true)]⟩ else S
theorem Gn {S:List Ent} {iq eq:Nat} : QQ.flS S iq eq false=S:=rfl
theorem Bd {S:List Ent} {iq eq:Nat} : QQ.flS S iq eq true=put S iq ⟨eq,[.prim (.bool true)]⟩:=rfl
theorem QQ.Bp {S:List Ent} {iq eq:Nat} {b:Bool} : (QQ.flS S iq eq b).length=S.length:=by
 cases b
 ·rfl
 ·exact Am
theorem A7 {S:List Ent} {iq eq j:Nat} {b:Bool} (h:j≠iq):nth (QQ.flS S iq eq b) j=nth S j:=by
 cases b
 ·rfl
 ·exact Ae h.symm
theorem A5 {S:List Ent} {i e:Nat} {cs:List AV} (h:entAt S i e=some cs):i<S.length:=by
 obtain ⟨x,h1,-⟩:=Du h;exact Bn h1
theorem De {α:Type} {l:List α} {i:Nat} {v:α} (h:i<l.length):nth (put l i v) i=some v:=by
 induction l generalizing i with
 | nil=>simp at h
 | cons x l ih=>cases i with
  | zero=>rfl
  | succ i=>exact ih aL
theorem Ah {S:List Ent} {i e:Nat} {cs:List AV} (h:i<S.length):entAt (put S i ⟨e,cs⟩) i e=some cs:=by
 simp [entAt,De h]
theorem Ai {S:List Ent} {i j e:Nat} {x:Ent} (h:i≠j):entAt (put S i x) j e=entAt S j e:=by
 simp [entAt,Ae h]
theorem Ab {S S':List Ent} {j e:Nat} (h:nth S' j=nth S j):entAt S' j e=entAt S j e:=by simp [entAt,h]
theorem Aku {S:List Ent} {iq eq:Nat} {b c:Bool} (h:entAt S iq eq=some [.prim (.bool b)]):entAt (QQ.flS S iq eq c) iq eq=some [.prim (.bool (b || c))]:=by
 cases c
 ·rw [Gn,Fy]; exact h
 ·rw [Bd,Ah (A5 h),Bool.or_true]
theorem Aux {S:List Ent} {iq eq:Nat} {b c:Bool} (h:entAt S iq eq=some [.prim (.bool b)]):gO S (QQ.flS S iq eq c)=some ():=by
 refine Ak7 ⟨QQ.Bp,fun j=>?_⟩;by_cases e:j=iq
 ·subst e;obtain ⟨x,h1,h2,h3⟩:=Du h;obtain ⟨ep,cs⟩:=x;simp only at h2 h3;subst h2 h3;cases c
  ·exact .inl rfl
  ·exact .inr ⟨_,b,true,h1,De (Bn h1)⟩
 ·exact .inl (A7 e)
theorem Ad {S:List Ent} {L:List Ent} {i e:Nat} {cs:List AV} (h:entAt S i e=some cs):entAt (S++L) i e=some cs:=by
 have hl:=A5 h;unfold entAt at h ⊢;rw [Af] at h ⊢;rw [Cv hl]; exact h
theorem Dk {S L:List Ent} {i:Nat} {x:Ent} (h:i<S.length):put (S++L) i x=put S i x++L:=by
 induction S generalizing i with
 | nil=>simp at h
 | cons y S ih=>cases i with
  | zero=>rfl
  | succ i=>simp only [Co,put,ih aL]
theorem X7 {S L:List Ent} {iq eq:Nat} {b:Bool} (h:iq<S.length):QQ.flS (S++L) iq eq b=QQ.flS S iq eq b++L:=by
 cases b
 ·rfl
 ·exact Dk h
theorem H4 {S L:List Ent} : (S++L).take S.length=S:=by simp
theorem An {S:List Ent} {n k:Nat} {cs:List AV} (h:S.length=n):entAt (S++[⟨k,cs⟩]) n k=some cs:=by subst h; exact Bk
theorem Da {S:List Ent} {n:Nat} {e e':Ent} (h:S.length=n):put (S++[e]) n e'=S++[e']:=by subst h; exact put_new
theorem Ki {S L:List Ent} {n:Nat} (h:S.length=n):(S++L).take n=S:=by subst h; exact H4
theorem A8 (x:Int) (g:Nat):(x.tdiv g).natAbs<=x.natAbs:=by
 rw [kJ]; exact Sq _ _
theorem Apt (n d:Int) (hn:n.natAbs<9223372036854775808) (hd:d.natAbs<9223372036854775808) (g:Nat) (hg:g=n.natAbs.gcd d.natAbs) (N:Int) (D:Nat) (hN:N=if d<0 then -n else n) (hD:D=d.natAbs) :
  lowN n d=(if 1<g then N.tdiv (g:Int) else N)/\lowD n d=(if 1<g then (D:Int).tdiv (g:Int) else (D:Int)):=by
 subst hN hD;have z6:(if d<0 then -n else n).natAbs=n.natAbs:=by split <;> omega
 unfold lowN lowD;rw [<- hg];by_cases h1:1<g
 ·rw [if_pos h1,if_pos h1];exact ⟨rfl,by rw [Cz aA]; rfl⟩
 ·rw [if_neg h1,if_neg h1];rcases Ig 0 g with h0|h0
  ·have:g=1:=aA
   subst this;exact ⟨by simp,by simp⟩
  ·have h00:g=0:=aA
   rw [h00] at hg;have ha:=Nat.gcd_eq_zero_iff.1 hg.symm;have eh:n=0:=aA
   have dd:d=0:=aA
   subst eh; subst dd;exact ⟨by simp,by simp⟩
section
variable (S:List Ent) (tk:List Nat) (k iq eq:Nat) (b:Bool)
theorem Ly (n d:Int) (hn:n.natAbs<9223372036854775808) (hd:d.natAbs<9223372036854775808) (hq:entAt S iq eq=some [.prim (.bool b)]):cL prog 223 [.ref iq eq 0,.int n,.int d] S tk k=some (frA (qn n d).1,QQ.flS S iq eq (qn n d).2,tk,k+1):=by
 have b6:=A5 hq;have cl:entAt (S++[⟨k,[.prim (.int .i64 0),.prim (.int .i64 0)]⟩]) iq eq=some [.prim (.bool b)]:=Ad hq;refine opS func223 ntmps223 ?_;obtain ⟨N,hN⟩:∃ N,N=if d<0 then -n else n:=⟨_,rfl⟩
 obtain ⟨D,hD⟩:∃ D:Nat,D=d.natAbs:=⟨_,rfl⟩;obtain ⟨g,hg⟩:∃ g:Nat,g=n.natAbs.gcd d.natAbs:=⟨_,rfl⟩;have z6:N.natAbs=n.natAbs:=by subst hN; split <;> omega
 obtain ⟨f1,f2⟩:=Apt n d hn hd g hg N D hN hD;obtain ⟨r,hr⟩:∃ r,r=qn n d:=⟨_,rfl⟩;have ae:=hr;unfold qn bigF at ae;rw [f1,f2] at ae;rw [<- hr];have d9:(put S iq ⟨eq,[.prim (.bool true)]⟩).length=S.length:=Am;have hE cs:=An (k:=k) (cs:=cs) d9;have hP e e':=Da (e:=e) (e':=e') d9;have hT L:=Ki (L:=L) d9;have hA L x:=Dk (L:=L) (x:=x) b6;by_cases hneg:d<0
 ·have d1:decide (d<0)=true:=aZ
  have w1':Cd.wrap (0 - n)=N:=by rw [hN,if_pos hneg,Aa aD]; omega
  have w2':Cd.wrap (0 - d)=((D:Nat):Int):=by rw [hD,Aa aD]; omega
  by_cases eh:N<0
  ·have d2:decide (N<0)=true:=cH
   have w3':Cd.wrap (0 - N)=((N.natAbs:Nat):Int):=aS
   simp (maxSteps:=10^6)+contextual(disch:=try exact dqd)only[evs0,simprocAttr,Ca,Bm,Cb,results223,d1,w1',w2',d2,w3'];refine Ada (P:=prog) (fun x st=>st.T.length=56/\(x.1.gcd x.2=g)/\(x.1<9223372036854775808)/\(x.2<9223372036854775808)/\getT st.T 0=.ref iq eq 0/\getT st.T 1=.int N/\getT st.T 2=.int (D:Nat)/\getT st.T 6=.ref S.length k 0/\getT st.T 7=.int (x.1:Nat)/\getT st.T 8=.int (x.2:Nat)/\st.S=S++[⟨k,[.int 0,.int 0]⟩]/\st.tk=tk/\st.n=k+1) (fun x=>x.2) (fun x=>(frA r.1,QQ.flS S iq eq r.2,tk,k+1)) (N.natAbs,D) ?_ ?_;case refine_2=>exact ⟨rfl,cW,aA,aA,rfl,rfl,rfl,rfl,rfl,rfl,rfl,rfl,rfl⟩
   rintro ⟨x,y⟩ ⟨T,S',tk',n'⟩ ⟨hl,fu,hx,hy,e0,e1,e2,e6,e7,e8,eS,eT,eN⟩ IH;simp only at fu hx hy e0 e1 e2 e6 e7 e8 eS eT eN;subst eS eT eN;obtain ⟨g,hg,hT⟩:=Ar hl;rw [hg] at e0 e1 e2 e6 e7 e8;subst hT;clear hg hl;by_cases h0:y=0
   ·subst h0;have c1:(((0:Nat):Int) != 0)=false:=rfl;rw [Nd] at fu;subst fu;by_cases h1:1<x
    ·rw [if_pos h1,if_pos h1] at ae;have c2:decide ((x:Int) > 1)=true:=aC
     have hz:¬ ((x:Int)=0):=aA
     have v1:=A8 N x;have v2:=A8 (D:Int) x;have w5:Cd.wrap (N.tdiv (x:Int))=N.tdiv (x:Int):=Aa aD;have w6:Cd.wrap ((D:Int).tdiv (x:Int))=(D:Int).tdiv (x:Int):=Aa aD;by_cases b1:N.tdiv (x:Int)<=-2147483648
     ·have k1:decide (N.tdiv (x:Int)<=-2147483648)=true:=bA
      exact Yag
     have k1:decide (N.tdiv (x:Int)<=-2147483648)=false:=bA
     by_cases b2:N.tdiv (x:Int) >= 2147483648
     ·have k2:decide (N.tdiv (x:Int) >= 2147483648)=true:=bC
      exact Yaf
     have k2:decide (N.tdiv (x:Int) >= 2147483648)=false:=bC
     exact Ya1
    ·rw [if_neg h1,if_neg h1] at ae;have c2:decide ((x:Int) > 1)=false:=aC
     by_cases b1:N<=-2147483648
     ·have k1:decide (N<=-2147483648)=true:=bA
      exact Yai
     have k1:decide (N<=-2147483648)=false:=bA
     by_cases b2:N >= 2147483648
     ·have k2:decide (N >= 2147483648)=true:=bC
      exact Yah
     have k2:decide (N >= 2147483648)=false:=bC
     exact Ya2
   ·exact Ya7
  ·have d2:decide (N<0)=false:=cH
   simp (maxSteps:=10^6)+contextual(disch:=try exact dqd)only[evs0,simprocAttr,Ca,Bm,Cb,results223,d1,w1',w2',d2];obtain ⟨M,hM⟩:∃ M:Nat,N=M:=⟨N.natAbs,aA⟩;exact Ya0
 ·have d1:decide (d<0)=false:=aZ
  have a09:n=N:=by rw [hN,if_neg hneg]
  have hDd:d=(D:Int):=aA
  subst a09;subst hDd;by_cases eh:n<0
  ·have d2:decide (n<0)=true:=cH
   have w3':Cd.wrap (0 - n)=((n.natAbs:Nat):Int):=aS
   simp (maxSteps:=10^6)+contextual(disch:=try exact dqd)only[evs0,simprocAttr,Ca,Bm,Cb,results223,d1,d2,w3'];refine Ada (P:=prog) (fun x st=>st.T.length=56/\(x.1.gcd x.2=g)/\(x.1<9223372036854775808)/\(x.2<9223372036854775808)/\getT st.T 0=.ref iq eq 0/\getT st.T 1=.int n/\getT st.T 2=.int (D:Nat)/\getT st.T 6=.ref S.length k 0/\getT st.T 7=.int (x.1:Nat)/\getT st.T 8=.int (x.2:Nat)/\st.S=S++[⟨k,[.int 0,.int 0]⟩]/\st.tk=tk/\st.n=k+1) (fun x=>x.2) (fun x=>(frA r.1,QQ.flS S iq eq r.2,tk,k+1)) (n.natAbs,D) ?_ ?_;case refine_2=>exact ⟨rfl,cW,aA,aA,rfl,rfl,rfl,rfl,rfl,rfl,rfl,rfl,rfl⟩
   rintro ⟨x,y⟩ ⟨T,S',tk',n'⟩ ⟨hl,fu,hx,hy,e0,e1,e2,e6,e7,e8,eS,eT,eN⟩ IH;simp only at fu hx hy e0 e1 e2 e6 e7 e8 eS eT eN;subst eS eT eN;obtain ⟨g,hg,hT⟩:=Ar hl;rw [hg] at e0 e1 e2 e6 e7 e8;subst hT;clear hg hl;by_cases h0:y=0
   ·subst h0;have c1:(((0:Nat):Int) != 0)=false:=rfl;rw [Nd] at fu;subst fu;by_cases h1:1<x
    ·rw [if_pos h1,if_pos h1] at ae;have c2:decide ((x:Int) > 1)=true:=aC
     have hz:¬ ((x:Int)=0):=aA
     have v1:=A8 n x;have v2:=A8 (D:Int) x;have w5:Cd.wrap (n.tdiv (x:Int))=n.tdiv (x:Int):=Aa aD;have w6:Cd.wrap ((D:Int).tdiv (x:Int))=(D:Int).tdiv (x:Int):=Aa aD;by_cases b1:n.tdiv (x:Int)<=-2147483648
     ·have k1:decide (n.tdiv (x:Int)<=-2147483648)=true:=bA
      exact Yag
     have k1:decide (n.tdiv (x:Int)<=-2147483648)=false:=bA
     by_cases b2:n.tdiv (x:Int) >= 2147483648
     ·have k2:decide (n.tdiv (x:Int) >= 2147483648)=true:=bC
      exact Yaf
     have k2:decide (n.tdiv (x:Int) >= 2147483648)=false:=bC
     exact Ya1
    ·rw [if_neg h1,if_neg h1] at ae;have c2:decide ((x:Int) > 1)=false:=aC
     by_cases b1:n<=-2147483648
     ·have k1:decide (n<=-2147483648)=true:=bA
      exact Yai
     have k1:decide (n<=-2147483648)=false:=bA
     by_cases b2:n >= 2147483648
     ·have k2:decide (n >= 2147483648)=true:=bC
      exact Yah
     have k2:decide (n >= 2147483648)=false:=bC
     exact Ya2
   ·exact Ya7
  ·have d2:decide (n<0)=false:=cH
   simp (maxSteps:=10^6)+contextual(disch:=try exact dqd)only[evs0,simprocAttr,Ca,Bm,Cb,results223,d1,d2];obtain ⟨M,hM⟩:∃ M:Nat,n=M:=⟨n.natAbs,aA⟩;exact Ya0
end
end
section
open Go Tryz
theorem Nu {a b:Int} (ha:a.natAbs<2147483648) (hb:b.natAbs<2147483648):(a*b).natAbs<4611686018427387904:=by
 rw [Im];exact Nat.mul_lt_mul'' ha hb
theorem Nt {a:Q} (h:okS a):a.1.natAbs<2147483648/\a.2.natAbs<2147483648:=by
 obtain ⟨h1,h2,h3,h4⟩:=h;omega
theorem new3a {S:List Ent} {e2 e3:Ent} {k:Nat} {c:List AV} : entAt (S++[⟨k,c⟩]++[e2]++[e3]) S.length k=some c:=Ad (Ad Bk)
theorem new3b {S:List Ent} {e1 e3:Ent} {k:Nat} {c:List AV} : entAt (S++[e1]++[⟨k,c⟩]++[e3]) (S++[e1]).length k=some c:=Ad Bk
theorem new3c {S S':List Ent} {e1 e2 x1 x2:Ent} {k:Nat} {c:List AV} (h:S'.length=S.length):entAt (S'++[e1]++[e2]++[⟨k,c⟩]) (S++[x1]++[x2]).length k=some c:=An cB
theorem put3c {S S':List Ent} {e1 e2 x1 x2 e e':Ent} (h:S'.length=S.length):put (S'++[e1]++[e2]++[e]) (S++[x1]++[x2]).length e'=S'++[e1]++[e2]++[e']:=Da cB
theorem take3 {S S':List Ent} {e1 e2 e3:Ent} (h:S'.length=S.length):(S'++[e1]++[e2]++[e3]).take S.length=S':=by rw [<- h]; simp
theorem flS3 {S:List Ent} {e1 e2 e3:Ent} {iq eq:Nat} {b:Bool} (h:iq<S.length):QQ.flS (S++[e1]++[e2]++[e3]) iq eq b=QQ.flS S iq eq b++[e1]++[e2]++[e3]:=by
 rw [X7 aC,X7 aC,X7 h]
theorem new1a {S:List Ent} {k:Nat} {c:List AV} : entAt (S++[⟨k,c⟩]) S.length k=some c:=Bk
section
variable (S:List Ent) (tk:List Nat) (k iq eq:Nat) (fl:Bool)
theorem Ads (a b:Q) (ha:okS a) (hb:okS b) (hq:entAt S iq eq=some [.prim (.bool fl)]):cL prog 217 [.ref iq eq 0,frA a,frA b] S tk k=some (frA (QQ.qF.minus a b).1,QQ.flS S iq eq (QQ.qF.minus a b).2,tk,k+4):=by
 obtain ⟨ru,nw⟩:=Nt ha;obtain ⟨hb1,hb2⟩:=Nt hb;obtain ⟨an,ad⟩:=a;obtain ⟨bn,bd⟩:=b;simp only at ru nw hb1 hb2;have p1:=Nu ru hb2;have p2:=Nu hb1 nw;have p3:=Nu nw hb2;have p4:=Nu ru hb1;have p5:=Nu nw hb1;have v1:Cd.wrap (an*bd)=an*bd:=Aa aD;have v2:Cd.wrap (bn*ad)=bn*ad:=Aa aD;have v3:Cd.wrap (ad*bd)=ad*bd:=Aa aD;have v4:Cd.wrap (an*bn)=an*bn:=Aa aD;have v5:Cd.wrap (ad*bn)=ad*bn:=Aa aD;have v6:Cd.wrap (an*bd - bn*ad)=an*bd - bn*ad:=Aa aD;have b6:=A5 hq;have hq3:entAt (S++[⟨k,[.int an,.int ad]⟩]++[⟨k+1,[.int bn,.int bd]⟩]++[⟨k+1+1,[.int 0,.int 0]⟩]) iq eq=some [.prim (.bool fl)]:=Ad (Ad (Ad hq));refine opS func217 ntmps217 ?_;have hN:=Ly _ tk (k+1+1+1) iq eq fl (an*bd - bn*ad) (ad*bd) aA aA hq3;rw [flS3 b6] at hN;have d9:=QQ.Bp (S:=S) (iq:=iq) (eq:=eq) (b:=(qn (an*bd - bn*ad) (ad*bd)).2);simp only [frA] at hN;simp (maxSteps:=10^6)+contextual(disch:=try exact dqd)only[evs0,simprocAttr,Ca,Bm,Cb,results217,frA,v1,v2,v3,v6,hN,new3a,new3b,new3c d9,put3c d9,take3 d9,QQ.qF]
theorem Adt (a b:Q) (ha:okS a) (hb:okS b) (hq:entAt S iq eq=some [.prim (.bool fl)]):cL prog 221 [.ref iq eq 0,frA a,frA b] S tk k=some (frA (QQ.qF.times a b).1,QQ.flS S iq eq (QQ.qF.times a b).2,tk,k+4):=by
 obtain ⟨ru,nw⟩:=Nt ha;obtain ⟨hb1,hb2⟩:=Nt hb;obtain ⟨an,ad⟩:=a;obtain ⟨bn,bd⟩:=b;simp only at ru nw hb1 hb2;have p1:=Nu ru hb2;have p2:=Nu hb1 nw;have p3:=Nu nw hb2;have p4:=Nu ru hb1;have p5:=Nu nw hb1;have v1:Cd.wrap (an*bd)=an*bd:=Aa aD;have v2:Cd.wrap (bn*ad)=bn*ad:=Aa aD;have v3:Cd.wrap (ad*bd)=ad*bd:=Aa aD;have v4:Cd.wrap (an*bn)=an*bn:=Aa aD;have v5:Cd.wrap (ad*bn)=ad*bn:=Aa aD;have v6:Cd.wrap (an*bd - bn*ad)=an*bd - bn*ad:=Aa aD;have b6:=A5 hq;have hq3:entAt (S++[⟨k,[.int an,.int ad]⟩]++[⟨k+1,[.int bn,.int bd]⟩]++[⟨k+1+1,[.int 0,.int 0]⟩]) iq eq=some [.prim (.bool fl)]:=Ad (Ad (Ad hq));refine opS func221 ntmps221 ?_;have hN:=Ly _ tk (k+1+1+1) iq eq fl (an*bn) (ad*bd) aA aA hq3;rw [flS3 b6] at hN;have d9:=QQ.Bp (S:=S) (iq:=iq) (eq:=eq) (b:=(qn (an*bn) (ad*bd)).2);simp only [frA] at hN;simp (maxSteps:=10^6)+contextual(disch:=try exact dqd)only[evs0,simprocAttr,Ca,Bm,Cb,results221,frA,v3,v4,hN,new3a,new3b,new3c d9,put3c d9,take3 d9,QQ.qF]
def QQ.Aaz (b:Q):Nat:=if b.1=0 then 3 else 4
theorem Ah5 (a b:Q) (ha:okS a) (hb:okS b) (hq:entAt S iq eq=some [.prim (.bool fl)]):cL prog 218 [.ref iq eq 0,frA a,frA b] S tk k=some (frA (QQ.qF.over a b).1,QQ.flS S iq eq (QQ.qF.over a b).2,tk,k+QQ.Aaz b):=by
 obtain ⟨ru,nw⟩:=Nt ha;obtain ⟨hb1,hb2⟩:=Nt hb;obtain ⟨an,ad⟩:=a;obtain ⟨bn,bd⟩:=b;simp only at ru nw hb1 hb2;have p1:=Nu ru hb2;have p2:=Nu hb1 nw;have p3:=Nu nw hb2;have p4:=Nu ru hb1;have p5:=Nu nw hb1;have v1:Cd.wrap (an*bd)=an*bd:=Aa aD;have v2:Cd.wrap (bn*ad)=bn*ad:=Aa aD;have v3:Cd.wrap (ad*bd)=ad*bd:=Aa aD;have v4:Cd.wrap (an*bn)=an*bn:=Aa aD;have v5:Cd.wrap (ad*bn)=ad*bn:=Aa aD;have v6:Cd.wrap (an*bd - bn*ad)=an*bd - bn*ad:=Aa aD;have b6:=A5 hq;have hq3:entAt (S++[⟨k,[.int an,.int ad]⟩]++[⟨k+1,[.int bn,.int bd]⟩]++[⟨k+1+1,[.int 0,.int 0]⟩]) iq eq=some [.prim (.bool fl)]:=Ad (Ad (Ad hq));refine opS func218 ntmps218 ?_;by_cases hz:bn=0
 ·have d1:(bn == 0)=true:=cQ
  have jo:QQ.qF.over (an,ad) (bn,bd)=((0,1),true):=by simp [QQ.qF,hz]
  have hko:QQ.Aaz (bn,bd)=3:=by simp [QQ.Aaz,hz]
  have d6:∀ e1 e2 e3,put (S++[e1]++[e2]++[e3]) iq ⟨eq,[.prim (.bool true)]⟩=QQ.flS S iq eq true++[e1]++[e2]++[e3]:=fun e1 e2 e3=>flS3 (b:=true) b6;have d9:=QQ.Bp (S:=S) (iq:=iq) (eq:=eq) (b:=true);rw [jo,hko];simp (maxSteps:=10^6)+contextual(disch:=try exact dqd)only[evs0,simprocAttr,Ca,Bm,Cb,results218,frA,d1,hq3,d6,new3a,new3b,new3c d9,put3c d9,take3 d9]
 ·have d1:(bn == 0)=false:=cQ
  have jo:QQ.qF.over (an,ad) (bn,bd)=qn (an*bd) (ad*bn):=by simp [QQ.qF,hz]
  have hko:QQ.Aaz (bn,bd)=4:=by simp [QQ.Aaz,hz]
  have hN:=Ly _ tk (k+1+1+1) iq eq fl (an*bd) (ad*bn) aA aA hq3;rw [flS3 b6] at hN;have d9:=QQ.Bp (S:=S) (iq:=iq) (eq:=eq) (b:=(qn (an*bd) (ad*bn)).2);simp only [frA] at hN;rw [jo,hko];simp (maxSteps:=10^6)+contextual(disch:=try exact dqd)only[evs0,simprocAttr,Ca,Bm,Cb,results218,frA,d1,v1,v5,hN,new3a,new3b,new3c d9,put3c d9,take3 d9]
theorem Adu (n:Int) (hq:entAt S iq eq=some [.prim (.bool fl)]):cL prog 222 [.ref iq eq 0,.int n] S tk k=some (frA (QQ.qF.whole n).1,QQ.flS S iq eq (QQ.qF.whole n).2,tk,k+1):=by
 have b6:=A5 hq;have cl:entAt (S++[⟨k,[.int 0,.int 0]⟩]) iq eq=some [.prim (.bool fl)]:=Ad hq;have d9:(put S iq ⟨eq,[.prim (.bool true)]⟩).length=S.length:=Am;have hE cs:=An (k:=k) (cs:=cs) d9;have hP e e':=Da (e:=e) (e':=e') d9;have hT L:=Ki (L:=L) d9;have hA L x:=Dk (L:=L) (x:=x) b6;refine opS func222 ntmps222 ?_;by_cases b1:n<=-2147483648
 ·have k1:decide (n<=-2147483648)=true:=bA
  have hr:QQ.qF.whole n=((0,1),true):=by simp [QQ.qF,b1]
  rw [hr];simp (maxSteps:=10^6)+contextual(disch:=try exact dqd)only[evs0,simprocAttr,Ca,Bm,Cb,results222,frA,Bd,k1,cl,hE,hP,hT,hA]
 have k1:decide (n<=-2147483648)=false:=bA
 by_cases b2:n >= 2147483648
 ·have k2:decide (n >= 2147483648)=true:=bC
  have hr:QQ.qF.whole n=((0,1),true):=by simp only [QQ.qF]; rw [if_pos (.inr b2)]
  rw [hr];simp (maxSteps:=10^6)+contextual(disch:=try exact dqd)only[evs0,simprocAttr,Ca,Bm,Cb,results222,frA,Bd,k1,k2,cl,hE,hP,hT,hA]
 have k2:decide (n >= 2147483648)=false:=bC
 have hr:QQ.qF.whole n=((n,1),false):=by simp only [QQ.qF]; rw [if_neg aA]
 rw [hr];simp (maxSteps:=10^6)+contextual(disch:=try exact dqd)only[evs0,simprocAttr,Ca,Bm,Cb,results222,frA,Gn,k1,k2,cl]
theorem Ah6 (a:Q) (hq:entAt S iq eq=some [.prim (.bool fl)]):cL prog 220 [.ref iq eq 0,frA a] S tk k=some (.int (sgn a),S,tk,k+1):=by
 obtain ⟨an,ad⟩:=a;refine opS func220 ntmps220 ?_;by_cases h1:an<0
 ·have k1:decide (an<0)=true:=aW
  have hr:sgn (an,ad)=-1:=by simp [sgn,h1]
  rw [hr];simp (maxSteps:=10^6)+contextual(disch:=try exact dqd)only[evs0,simprocAttr,Ca,Bm,Cb,results220,frA,k1,new1a,H4]
 have k1:decide (an<0)=false:=aW
 by_cases h2:an > 0
 ·have k2:decide (an > 0)=true:=cF
  have hr:sgn (an,ad)=1:=by simp only [sgn]; rw [if_neg h1,if_pos h2]
  exact Ya18
 have k2:decide (an > 0)=false:=cF
 have hr:sgn (an,ad)=0:=by simp only [sgn]; rw [if_neg h1,if_neg h2]
 exact Ya18
theorem Adr (hq:entAt S iq eq=some [.prim (.bool fl)]):cL prog 216 [.ref iq eq 0] S tk k=some (.bool (!fl),S,tk,k):=by
 refine opS func216 ntmps216 ?_;simp (maxSteps:=10^6)+contextual(disch:=try exact dqd)only[evs0,simprocAttr,Ca,Bm,Cb,results216,hq]
theorem Of_z (n d:Int) (hn:(dig n.natAbs).length<=200) (hd:(dig d.natAbs).length<=200):cL prog 224 [zA n,zA d] S tk k=some (resQ n d,S,tk,k):=by
 have h:=Avr S tk k (decide (n<0)) (dig n.natAbs) (decide (d<0)) (dig d.natAbs) aA aA;unfold ofQ at h;rw [V_of _ hn,V_of _ hd] at h;by_cases h0:Dy (decide (n<0)) (dig n.natAbs)=true
 ·rw [if_pos h0] at h; exact h
 ·exact absurd (Tn n hn) h0
theorem digS {n:Int} (h:n.natAbs<2147483648):(dig n.natAbs).length<=200:=by
 refine Bg.2 ?_;exact Ya2x
theorem V9 (a:Q) (ha:okS a) (_:entAt S iq eq=some [.prim (.bool fl)]):cL prog 219 [.ref iq eq 0,frA a] S tk k=some (qA (resN a.1 a.2) (resD a.1 a.2),S,tk,k+3):=by
 obtain ⟨ru,nw⟩:=Nt ha;obtain ⟨an,ad⟩:=a;simp only at ru nw;have h1 S tk k:=T3 S tk k an aD;have h2 S tk k:=T3 S tk k ad aD;have h3 S tk k:=Of_z S tk k an ad (digS ru) (digS nw);simp only [zA,bigA,digA] at h1 h2 h3;simp only [resQ,qA,ratA,digA] at h3 ⊢;refine opS func219 ntmps219 ?_;simp (maxSteps:=10^6)+contextual(disch:=try exact dqd)only[evs1,simprocAttr,Ca,Bm,Cb,results219,frA,digA,h1,h2,h3,new1a,H4];rw [take3 rfl]
end
def raA (a:Q):AV:=qA a.1 a.2
section
variable (S:List Ent) (tk:List Nat) (k:Nat)
theorem Aid (a b:Q) (ha:okW a) (hb:okW b):cL prog 243 [.agg [],raA a,raA b] S tk k=some (raA (WW.qF.minus a b).1,S,tk,k):=by
 obtain ⟨l1,l2⟩:=Gm ha;obtain ⟨l3,l4⟩:=Gm hb;obtain ⟨g1,g2⟩:=qz_n ha;obtain ⟨g3,g4⟩:=qz_n hb;obtain ⟨an,ad⟩:=a;obtain ⟨bn,bd⟩:=b;simp only at l1 l2 l3 l4 g1 g2 g3 g4;have hJ S tk k:=Apx S tk k (decide (an<0)) (dig an.natAbs) (decide (ad<0)) (dig ad.natAbs) (decide (bn<0)) (dig bn.natAbs) (decide (bd<0)) (dig bd.natAbs) aA aA aA aA;rw [g1,g2,g3,g4] at hJ;refine opP func243 ntmps243 (hp3:=rfl) ?_;simp only [resQ,raA,qA,ratA,digA] at hJ ⊢;simp (maxSteps:=10^6)+contextual(disch:=try exact dqd)only[ev1,simprocAttr,Ca,Bm,Cb,results243,raA,qA,ratA,digA,WW.qF,wn,hJ];exact ⟨rfl,rfl⟩
theorem Aie (a b:Q) (ha:okW a) (hb:okW b):cL prog 247 [.agg [],raA a,raA b] S tk k=some (raA (WW.qF.times a b).1,S,tk,k):=by
 obtain ⟨l1,l2⟩:=Gm ha;obtain ⟨l3,l4⟩:=Gm hb;obtain ⟨g1,g2⟩:=qz_n ha;obtain ⟨g3,g4⟩:=qz_n hb;obtain ⟨an,ad⟩:=a;obtain ⟨bn,bd⟩:=b;simp only at l1 l2 l3 l4 g1 g2 g3 g4;have hJ S tk k:=As0 S tk k (decide (an<0)) (dig an.natAbs) (decide (ad<0)) (dig ad.natAbs) (decide (bn<0)) (dig bn.natAbs) (decide (bd<0)) (dig bd.natAbs) aA aA aA aA;rw [g1,g2,g3,g4] at hJ;refine opP func247 ntmps247 (hp3:=rfl) ?_;simp only [resQ,raA,qA,ratA,digA] at hJ ⊢;simp (maxSteps:=10^6)+contextual(disch:=try exact dqd)only[ev1,simprocAttr,Ca,Bm,Cb,results247,raA,qA,ratA,digA,WW.qF,wn,hJ];exact ⟨rfl,rfl⟩
theorem Am0 (a b:Q) (ha:okW a) (hb:okW b):cL prog 244 [.agg [],raA a,raA b] S tk k=some (raA (WW.qF.over a b).1,S,tk,k):=by
 obtain ⟨l1,l2⟩:=Gm ha;obtain ⟨l3,l4⟩:=Gm hb;obtain ⟨g1,g2⟩:=qz_n ha;obtain ⟨g3,g4⟩:=qz_n hb;obtain ⟨an,ad⟩:=a;obtain ⟨bn,bd⟩:=b;simp only at l1 l2 l3 l4 g1 g2 g3 g4;have hJ S tk k:=Asz S tk k (decide (an<0)) (dig an.natAbs) (decide (ad<0)) (dig ad.natAbs) (decide (bn<0)) (dig bn.natAbs) (decide (bd<0)) (dig bd.natAbs) aA aA aA aA;rw [g1,g2,g3,g4] at hJ;refine opP func244 ntmps244 (hp3:=rfl) ?_;simp only [resQ,raA,qA,ratA,digA] at hJ ⊢;simp (maxSteps:=10^6)+contextual(disch:=try exact dqd)only[ev1,simprocAttr,Ca,Bm,Cb,results244,raA,qA,ratA,digA,WW.qF,wn,hJ];exact ⟨rfl,rfl⟩
theorem Aif (n:Int) (hn:i64 n):cL prog 248 [.agg [],.int n] S tk k=some (raA (WW.qF.whole n).1,S,tk,k):=by
 have hJ S tk k:=Adv S tk k n hn;refine opP func248 ntmps248 (hp3:=rfl) ?_;simp only [raA,qA,ratA,digA,WW.qF] at hJ ⊢;simp (maxSteps:=10^6)+contextual(disch:=try exact dqd)only[ev1,simprocAttr,Ca,Bm,Cb,results248,raA,qA,ratA,digA,WW.qF,hJ];first|rfl|exact ⟨rfl,rfl⟩
theorem Am2 (a:Q) (ha:okW a):cL prog 246 [.agg [],raA a] S tk k=some (.int (sgn a),S,tk,k):=by
 have hI S tk k:=Adv S tk k 0 aD;obtain ⟨l1,l2⟩:=Gm ha;obtain ⟨g1,g2⟩:=qz_n ha;have j6:=Avv ha;obtain ⟨an,ad⟩:=a;simp only at l1 l2 g1 g2;have g0:Jm 0 1:=Aax;have hJ S tk k:=Asy S tk k (decide (an<0)) (dig an.natAbs) (decide (ad<0)) (dig ad.natAbs) (decide ((0:Int)<0)) (dig (0:Int).natAbs) (decide ((1:Int)<0)) (dig (1:Int).natAbs) aA aA aX aX;rw [g1,g2,g0.nQ,g0.dQ] at hJ;have hs:cmpZ ((qz (an,ad)).1*1) (0*(qz (an,ad)).2)=sgn (an,ad):=by rw [<- j6]; simp only [cmpZ,sgn,Int.mul_one,Int.zero_mul]
 rw [hs] at hJ;refine opP func246 ntmps246 (hp3:=rfl) ?_;have z1:decide ((0:Int)<0)=false:=rfl;have z2:decide ((1:Int)<0)=false:=rfl;have z3:(0:Int).natAbs=0:=rfl;have z4:(1:Int).natAbs=1:=rfl;simp only [raA,qA,ratA,digA,z1,z2,z3,z4] at hI hJ ⊢;simp (maxSteps:=10^6)+contextual(disch:=try exact dqd)only[ev1,simprocAttr,Ca,Bm,Cb,results246,raA,qA,ratA,digA,hI,hJ]
theorem Y4 (a:Q):cL prog 245 [.agg [],raA a] S tk k=some (raA a,S,tk,k):=by
 refine opP func245 ntmps245 (hp3:=rfl) ?_;simp (maxSteps:=10^6)+contextual(disch:=try exact dqd)only[ev1,simprocAttr,Ca,Bm,Cb,results245,raA,qA,ratA,digA]
theorem Aic:cL prog 242 [.agg []] S tk k=some (.bool true,S,tk,k):=by
 refine opP func242 ntmps242 (hp3:=rfl) ?_;simp (maxSteps:=10^6)+contextual(disch:=try exact dqd)only[ev1,simprocAttr,Ca,Bm,Cb,results242]
end
end
section
open Go
section
variable {P:Program} {fn:Func} {k:List Kont}
abbrev Rs:=AV × List Ent × List Nat × Nat
def Gd (fin:Option (AV × St)->Option Rs) (Φ:Rs->Prop) (x:Option (AV × St)):Prop:=∃ r,fin x=some r/\Φ r
theorem Aqg {m:Nat} {Φ:Rs->Prop} {t:Bool} {a b:Option (AV × St)} {tg:Tag (a,b)} : Gd (finS m) Φ (BR (some t) a b tg)↔(t=true->Gd (finS m) Φ a)/\(t=false->Gd (finS m) Φ b):=by
 cases t <;> simp [BR,br]
theorem Aqf {Φ:Rs->Prop} {t:Bool} {a b:Option (AV × St)} {tg:Tag (a,b)} : Gd finM Φ (BR (some t) a b tg)↔(t=true->Gd finM Φ a)/\(t=false->Gd finM Φ b):=by
 cases t <;> simp [BR,br]
theorem Aea {m:Nat} {Φ:Rs->Prop} {r:AV} {s:St} : Gd (finS m) Φ (some (r,s))↔Φ (fz3 m s.S r,s.S.take m,s.tk,s.n):=by simp [Gd,finS]
theorem Ad9 {Φ:Rs->Prop} {r:AV} {s:St} : Gd finM Φ (some (r,s))↔Φ (r,s.S,s.tk,s.n):=by simp [Gd,finM]
theorem D8 [Globs] [Ext P] {ι:Type} {c:Code} {fin:Option (AV × St)->Option Rs} {Φ:Rs->Prop} {tg:Tag (lE c,k)} (I:ι->St->Prop) (μ:ι->Nat) (x:ι)
  (h:∀ x st,I x st->(∀ y st',μ y<μ x->I y st'->Gd fin Φ (KX P fn (.loop c) st' k .mk))->Gd fin Φ (KX P fn c st (.loop c st.S.length :: k) .mk)) {st:St} (h0:I x st):Gd fin Φ (KX P fn (.loop c) st k tg):=by
 have key:∀ n x st,μ x=n->I x st->Gd fin Φ (KX P fn (.loop c) st k .mk):=by
  intro n;induction n using So with
  | _ n ih =>
   intro x st hn hI;show Gd fin Φ (RK P fn (.loop c) st k);exact Ya12
 exact key _ x st rfl h0
theorem Z6 [Globs] [Ext P] {f : FuncId} {c : Code} (hf : P.funcs[f]? = some fn) (hx : (Ext.on P f || Ext.mv P f) = false) (hb : fn.body = some c) (bg : (fn.name == "runtime.NumGoroutine") = false) {args : List AV} {nt : Nat} (lh : fn.ntmps = nt) (hp : (args.map w2).all pure2 = false) {S : List Ent} {tk : List Nat} {n : Nat} {Φ : Rs → Prop}
  (h:Gd (finS S.length) Φ (RK P fn c ⟨args++bots (nt - args.length),S,tk,n⟩ [])):∃ r,cL P f args S tk n=some r/\Φ r:=by
 obtain ⟨r,h1,h2⟩:=h;exact ⟨r,Ni hf hx hb bg lh hp h1,h2⟩
theorem Aou [Globs] [Ext P] {f : FuncId} {c : Code} (hf : P.funcs[f]? = some fn) (hx : (!Ext.on P f && Ext.mv P f) = true) (hb : fn.body = some c) (bg : (fn.name == "runtime.NumGoroutine") = false) {args : List AV} {nt : Nat} (lh : fn.ntmps = nt) {S : List Ent} {tk : List Nat} {n : Nat} {Φ : Rs → Prop}
  (h:Gd finM Φ (RK P fn c ⟨args++bots (nt - args.length),S,tk,n⟩ [])):∃ r,cL P f args S tk n=some r/\Φ r:=by
 obtain ⟨r,h1,h2⟩:=h;exact ⟨r,Aj3 hf hx hb bg lh h1,h2⟩
end
section
variable {P:Program} {fn:Func} [Globs] [Ext P] {f:FuncId} {c:Code} {args:List AV} {nt:Nat} {S:List Ent} {tk:List Nat} {n:Nat} {Φ:Rs->Prop}
theorem opG (hf : P.funcs[f]? = some fn) (lh : fn.ntmps = nt) (h : Gd (finS S.length) Φ (KX P fn c ⟨args ++ bots (nt - args.length), S, tk, n⟩ [] .mk)) (hx : (Ext.on P f || Ext.mv P f) = false := by exact rfl) (hb : fn.body = some c := by exact rfl) (bg : (fn.name == "runtime.NumGoroutine") = false := by decide +kernel) (hp : (args.map w2).all pure2 = false := by exact rfl) : ∃ r, cL P f args S tk n = some r ∧ Φ r := Z6 hf hx hb bg lh hp h
theorem opM (hf : P.funcs[f]? = some fn) (lh : fn.ntmps = nt) (h : Gd finM Φ (KX P fn c ⟨args ++ bots (nt - args.length), S, tk, n⟩ [] .mk)) (hx : (!Ext.on P f && Ext.mv P f) = true := by exact rfl) (hb : fn.body = some c := by exact rfl) (bg : (fn.name == "runtime.NumGoroutine") = false := by decide +kernel) : ∃ r, cL P f args S tk n = some r ∧ Φ r := Aou hf hx hb bg lh h
end
set_option linter.defProp false in
def evg1:=B6 @Aqg <| B6 @Aqf <| B6 @Aea <| B6 @Ad9 evs1
/- rows of cells -/
theorem Ab3 {sz:Nat} : ∀ {e r:List AV},e.length=sz->takeN sz (e++r)=some e:=by
 induction sz with
 | zero=>intro e r h; rw [Cw.1 h]; rfl
 | succ n ih =>
  intro e r h;cases e with
  | nil=>simp at h
  | cons x e=>simp only [Co,takeN,ih aL,C7]
theorem Tj {e':List AV} : ∀ {e r:List AV},e.length=e'.length->over (e++r) 0 e'=some (e'++r):=by
 induction e' with
 | nil=>intro e r h; rw [Cw.1 h]; simp [over]
 | cons x e' ih =>
  intro e r h;cases e with
  | nil=>simp at h
  | cons y e=>simp only [Co,over,ih aL,C7]
section
variable {sz:Nat}
theorem Aas:∀ {es:List (List AV)} {k:Nat} {e:List AV},(∀ e ∈ es,e.length=sz)->nth es k=some e->takeN sz (es.flatten.drop (k*sz))=some e
 | x :: es,0,e,h,hk=>by
  simp only [nth,Ba] at hk;subst hk;simp only [Om,Fx,F1];exact Ab3 (h _ (by simp))
 | x :: es,k+1,e,h,hk=>by
  have hx:=h x (by simp);have e1:(k+1)*sz=x.length+k*sz:=by rw [hx,I9,Nat.add_comm]
  rw [e1,F1,iO];simp only [Nat.add_sub_cancel_left];rw [Fe aA,Cr];exact Aas (fun e he=>h e (by simp [he])) hk
 | [],_,_,_,hk=>by simp [nth] at hk
theorem Pl:∀ {es:List (List AV)} {k:Nat} {e e':List AV},(∀ e ∈ es,e.length=sz)->nth es k=some e->e'.length=sz->over es.flatten (k*sz) e'=some (put es k e').flatten
 | x :: es,0,e,e',h,_,he=>by
  simp only [Om,F1,put];exact Tj (by rw [h x (by simp),he])
 | x :: es,k+1,e,e',h,hk,he=>by
  have hx:=h x (by simp);have e1:(k+1)*sz=x.length+k*sz:=by rw [hx,I9,Nat.add_comm]
  have ih:=Pl (es:=es) (k:=k) (fun e he=>h e (by simp [he])) hk he;have gen:∀ (p cs:List AV) (o:Nat) (r:List AV),over cs o e'=some r->over (p++cs) (p.length+o) e'=some (p++r):=by
   intro p;induction p with
   | nil=>intro cs o r h; simpa using h
   | cons y p ih =>
    intro cs o r h;have:=ih cs o r h;have e2:(y :: p).length+o=(p.length+o)+1:=aC
    rw [e2];cases e' <;> simp only [Co,over,this,C7]
  rw [e1,F1];simp only [put,F1];exact gen x _ _ _ ih
 | [],_,_,_,_,hk,_=>by simp [nth] at hk
end
def flat (ce:Q->List AV) (l:List Q):List AV:=(l.map ce).flatten
section
variable {ce:Q->List AV} {sz:Nat} (hce:∀ q,(ce q).length=sz)
include hce
theorem Aq {l:List Q} {k:Nat} {q:Q} (h:nth l k=some q):takeN sz ((flat ce l).drop (k*sz))=some (ce q):=by
 unfold flat;refine Aas (fun e he=>?_) ?_
 ·obtain ⟨x,-,rfl⟩:=F9.1 he;exact hce x
 ·rw [Af] at h ⊢; rw [Et,h]; rfl
theorem Bl {l:List Q} {k:Nat} {q':Q} (h:k<l.length):over (flat ce l) (k*sz) (ce q')=some (flat ce (put l k q')):=by
 unfold flat;rw [<- Nw];refine Pl (e:=ce l[k]) (fun e he=>?_) ?_ (hce q')
 ·obtain ⟨x,-,rfl⟩:=F9.1 he;exact hce x
 ·rw [Af,Et,Io h]; rfl
theorem Uk {l:List Q} : (flat ce l).length=l.length*sz:=by
 unfold flat;induction l with
 | nil=>simp
 | cons x l ih=>rw [Cn,F1,Cm,ih,hce x,Ci,I9,Nat.add_comm]
end
abbrev QQ.rcvQ (i e:Nat):AV:=.ref i e 0
abbrev WW.rcvQ (_ _:Nat):AV:=.agg []
abbrev QQ.zeroQ:List AV:=[.int 0,.int 0]
abbrev WW.zeroQ:List AV:=[.prim (.bool false),.frz [] .nilc,.prim (.bool false),.frz [] .nilc]
end
section
open Go Tryz
def ceQ (a:Q):List AV:=[.int a.1,.int a.2]
def ceW (a:Q):List AV:=[.prim (.bool (decide (a.1<0))),digA (dig a.1.natAbs),.prim (.bool (decide (a.2<0))),digA (dig a.2.natAbs)]
theorem A0 (a:Q):(ceQ a).length=2:=rfl
theorem Al (a:Q):(ceW a).length=4:=rfl
theorem B2 (a:Q):(ceQ a).all leafOk=true:=rfl
theorem Av (a:Q):(ceW a).all leafOk=true:=rfl
theorem QQ.Aqs (m:Nat) (S:List Ent) (a:Q):(ceQ a).map (fz1 m S)=ceQ a:=rfl
theorem WW.Aqs (m:Nat) (S:List Ent) (a:Q):(ceW a).map (fz1 m S)=ceW a:=rfl
theorem QQ.ovQ (a:Q):over [.int 0,.int 0] 0 (ceQ a)=some (ceQ a):=rfl
theorem QQ.ovQ2 (a b:Q):over (ceQ b) 0 (ceQ a)=some (ceQ a):=rfl
theorem WW.ovQ (a:Q):over [.prim (.bool false),.frz [] .nilc,.prim (.bool false),.frz [] .nilc] 0 (ceW a)=some (ceW a):=rfl
theorem WW.ovQ2 (a b:Q):over (ceW b) 0 (ceW a)=some (ceW a):=rfl
theorem QQ.tkQ (a:Q):takeN 2 (ceQ a)=some (ceQ a):=rfl
theorem WW.tkQ (a:Q):takeN 4 (ceW a)=some (ceW a):=rfl
theorem QQ.puQ (a:Q):((ceQ a).map w1).all pure1=true:=rfl
theorem WW.puQ (a:Q):((ceW a).map w1).all pure1=true:=rfl
theorem D1 (a:Q):(ceW a).all pure1=true:=rfl
theorem D2 (a:Q):(ceW a).map w1=ceW a:=rfl
def QQ.FAq (S:List Ent) (iq eq:Nat) (b:Bool):Prop:=entAt S iq eq=some [.prim (.bool b)]
structure WW.FAq (_:List Ent) (_ _:Nat) (_:Bool):Prop where
def WW.flS (S:List Ent) (_ _:Nat) (_:Bool):List Ent:=S
theorem WW.Es {S:List Ent} {iq eq:Nat} {b c:Bool} (_:WW.FAq S iq eq b):gO S (WW.flS S iq eq c)=some ():=gO_refl
theorem QQ.Es {S:List Ent} {iq eq:Nat} {b c:Bool} (h:QQ.FAq S iq eq b):gO S (QQ.flS S iq eq c)=some ():=Aux h
theorem QQ.FAq.fS {S:List Ent} {iq eq:Nat} {b c:Bool} (h:QQ.FAq S iq eq b):QQ.FAq (QQ.flS S iq eq c) iq eq (b || c):=Aku h
theorem WW.FAq.fS {S:List Ent} {iq eq:Nat} {b c:Bool} (_:WW.FAq S iq eq b):WW.FAq (WW.flS S iq eq c) iq eq (b || c):=⟨⟩
theorem QQ.FAq.app {S L:List Ent} {iq eq:Nat} {b:Bool} (h:QQ.FAq S iq eq b):QQ.FAq (S++L) iq eq b:=Ad h
theorem WW.FAq.app {S L:List Ent} {iq eq:Nat} {b:Bool} (_:WW.FAq S iq eq b):WW.FAq (S++L) iq eq b:=⟨⟩
theorem QQ.Hr {S L:List Ent} {iq eq:Nat} {b c:Bool} (h:QQ.FAq S iq eq c):QQ.flS (S++L) iq eq b=QQ.flS S iq eq b++L:=X7 (A5 h)
theorem WW.Hr {S L:List Ent} {iq eq:Nat} {b c:Bool} (_:WW.FAq S iq eq c):WW.flS (S++L) iq eq b=WW.flS S iq eq b++L:=rfl
theorem WW.Bp {S:List Ent} {iq eq:Nat} {b:Bool} : (WW.flS S iq eq b).length=S.length:=rfl
theorem Bt {S:List Ent} {iq eq j:Nat} {b:Bool} (_:j≠iq):nth (WW.flS S iq eq b) j=nth S j:=rfl
theorem QQ.FAq.put {S:List Ent} {iq eq i:Nat} {b:Bool} {x:Ent} (h:QQ.FAq S iq eq b) (hne:i≠iq):QQ.FAq (put S i x) iq eq b:=by unfold QQ.FAq; rw [Ai hne]; exact h
theorem WW.FAq.put {S:List Ent} {iq eq i:Nat} {b:Bool} {x:Ent} (_:WW.FAq S iq eq b) (_:i≠iq):WW.FAq (put S i x) iq eq b:=⟨⟩
theorem QQ.FAq.of {S S':List Ent} {iq eq:Nat} {b:Bool} (h:QQ.FAq S iq eq b) (hne:nth S' iq=nth S iq):QQ.FAq S' iq eq b:=by unfold QQ.FAq; rw [Ab hne]; exact h
theorem WW.FAq.of {S S':List Ent} {iq eq:Nat} {b:Bool} (_:WW.FAq S iq eq b) (_:nth S' iq=nth S iq):WW.FAq S' iq eq b:=⟨⟩
section
variable (S:List Ent) (tk:List Nat) (k iq eq:Nat) (fl:Bool)
theorem QQ.Nc (a b:Q) (ha:QQ.qF.ok a) (hb:QQ.qF.ok b) (hq:QQ.FAq S iq eq fl):cL prog 217 [.ref iq eq 0,.agg (ceQ a),.agg (ceQ b)] S tk k=some (.agg (ceQ (QQ.qF.minus a b).1),QQ.flS S iq eq (QQ.qF.minus a b).2,tk,k+4):=Ads S tk k iq eq fl a b ha hb hq
theorem QQ.Agq (a b:Q) (ha:QQ.qF.ok a) (hb:QQ.qF.ok b) (hq:QQ.FAq S iq eq fl):cL prog 221 [.ref iq eq 0,.agg (ceQ a),.agg (ceQ b)] S tk k=some (.agg (ceQ (QQ.qF.times a b).1),QQ.flS S iq eq (QQ.qF.times a b).2,tk,k+4):=Adt S tk k iq eq fl a b ha hb hq
theorem QQ.Avd (a b:Q) (ha:QQ.qF.ok a) (hb:QQ.qF.ok b) (hq:QQ.FAq S iq eq fl):cL prog 218 [.ref iq eq 0,.agg (ceQ a),.agg (ceQ b)] S tk k=some (.agg (ceQ (QQ.qF.over a b).1),QQ.flS S iq eq (QQ.qF.over a b).2,tk,k+QQ.Aaz b):=Ah5 S tk k iq eq fl a b ha hb hq
theorem QQ.Me (n:Int) (_:i64 n) (hq:QQ.FAq S iq eq fl):cL prog 222 [.ref iq eq 0,.int n] S tk k=some (.agg (ceQ (QQ.qF.whole n).1),QQ.flS S iq eq (QQ.qF.whole n).2,tk,k+1):=Adu S tk k iq eq fl n hq
theorem QQ.Ad2 (a:Q) (_:QQ.qF.ok a) (hq:QQ.FAq S iq eq fl):cL prog 220 [.ref iq eq 0,.agg (ceQ a)] S tk k=some (.int (sgn a),S,tk,k+1):=Ah6 S tk k iq eq fl a hq
theorem QQ.Afc (hq:QQ.FAq S iq eq fl):cL prog 216 [.ref iq eq 0] S tk k=some (.bool (!(QQ.qF.stop && fl)),S,tk,k):=Adr S tk k iq eq fl hq
theorem WW.Afc (_:WW.FAq S iq eq fl):cL prog 242 [.agg []] S tk k=some (.bool (!(WW.qF.stop && fl)),S,tk,k):=Aic S tk k
theorem QQ.Vm (a:Q) (ha:QQ.qF.ok a) (hq:QQ.FAq S iq eq fl):cL prog 219 [.ref iq eq 0,.agg (ceQ a)] S tk k=some (.agg (ceW (QQ.qF.rat a)),S,tk,k+3):=V9 S tk k iq eq fl a ha hq
theorem WW.Vm (a:Q) (_:WW.qF.ok a) (_:WW.FAq S iq eq fl):cL prog 245 [.agg [],.agg (ceW a)] S tk k=some (.agg (ceW (WW.qF.rat a)),S,tk,k+0):=Y4 S tk k a
def WW.Aaz (_:Q):Nat:=0
theorem WW.Nc (a b:Q) (ha:WW.qF.ok a) (hb:WW.qF.ok b) (_:WW.FAq S iq eq fl):cL prog 243 [.agg [],.agg (ceW a),.agg (ceW b)] S tk k=some (.agg (ceW (WW.qF.minus a b).1),WW.flS S iq eq (WW.qF.minus a b).2,tk,k+0):=Aid S tk k a b ha hb
theorem WW.Agq (a b:Q) (ha:WW.qF.ok a) (hb:WW.qF.ok b) (_:WW.FAq S iq eq fl):cL prog 247 [.agg [],.agg (ceW a),.agg (ceW b)] S tk k=some (.agg (ceW (WW.qF.times a b).1),WW.flS S iq eq (WW.qF.times a b).2,tk,k+0):=Aie S tk k a b ha hb
theorem WW.Avd (a b:Q) (ha:WW.qF.ok a) (hb:WW.qF.ok b) (_:WW.FAq S iq eq fl):cL prog 244 [.agg [],.agg (ceW a),.agg (ceW b)] S tk k=some (.agg (ceW (WW.qF.over a b).1),WW.flS S iq eq (WW.qF.over a b).2,tk,k+WW.Aaz b):=Am0 S tk k a b ha hb
theorem WW.Me (n:Int) (hn:i64 n) (_:WW.FAq S iq eq fl):cL prog 248 [.agg [],.int n] S tk k=some (.agg (ceW (WW.qF.whole n).1),WW.flS S iq eq (WW.qF.whole n).2,tk,k+0):=Aif S tk k n hn
theorem WW.Ad2 (a:Q) (ha:WW.qF.ok a) (_:WW.FAq S iq eq fl):cL prog 246 [.agg [],.agg (ceW a)] S tk k=some (.int (sgn a),S,tk,k+0):=Am2 S tk k a ha
end
/- the algorithm -/
def Kh (F:Fld) (b a r:Q):Q × Bool:=if sgn r=0 then (a,false) else ((F.minus a (F.times b r).1).1,(F.times b r).2 || (F.minus a (F.times b r).1).2)
def lessL (F:Fld) (b:Q):List Q->List Q->List Q × Bool
 | a :: l,r :: m=>((Kh F b a r).1 :: (lessL F b l m).1,(Kh F b a r).2 || (lessL F b l m).2)
 | l,_=>(l,false)
def lessT (F:Fld) (a r:List Q) (c:Nat):List Q × Bool:=match nth a c with|some b=>if sgn b=0 then (a,false) else lessL F b a r|none=>(a,false)
theorem D9 {α:Type} {p u:List α} {x:α} : nth (p++x :: u) p.length=some x:=by
 rw [Af,Fh (Ce _),Ob]; rfl
theorem E5 {α:Type} {p u:List α} {x y:α} : put (p++x :: u) p.length y=p++y :: u:=by
 rw [Vf,jM _ _ (Ce _),Ob]; rfl
def okL (F:Fld) (l:List Q):Prop:=∀ q ∈ l,F.ok q
theorem Ap7 {F:Fld} (hF:F.Keeps) {b a r:Q} (hb:F.ok b) (ha:F.ok a) (hr:F.ok r):F.ok (Kh F b a r).1:=by
 unfold Kh;split
 ·exact ha
 ·exact hF.minus _ _ ha (hF.times _ _ hb hr)
theorem Px {F:Fld} {b:Q} : ∀ {l m:List Q},(lessL F b l m).1.length=l.length
 | [],_=>by simp [lessL]
 | a :: l,[]=>rfl
 | a :: l,r :: m=>by simp only [lessL,Ci,Px]
theorem Yd {F:Fld} (hF:F.Keeps) {b:Q} (hb:F.ok b):∀ {l m:List Q},okL F l->okL F m->okL F (lessL F b l m).1
 | [],_,h,_=>by simpa [lessL] using h
 | a :: l,[],h,_=>h
 | a :: l,r :: m,h,h'=>by
  intro q hq;simp only [lessL,C4] at hq;rcases hq with rfl|hq
  ·exact Ap7 hF hb (h _ (by simp)) (h' _ (by simp))
  ·exact Yd hF hb (fun q hq=>h q bS) (fun q hq=>h' q bS) q hq
theorem QQ.Ge : mRow prog 118 "liquidcheck/simplex.whole" = some 222 ∧ mRow prog 118 "liquidcheck/simplex.minus" = some 217 ∧
  mRow prog 118 "liquidcheck/simplex.times" = some 221 ∧ mRow prog 118 "liquidcheck/simplex.over" = some 218 ∧
  mRow prog 118 "liquidcheck/simplex.sign" = some 220 ∧ mRow prog 118 "liquidcheck/simplex.rational" = some 219 ∧
  mRow prog 118 "liquidcheck/simplex.exact" = some 216 := aX
theorem WW.Ge : mRow prog 123 "liquidcheck/simplex.whole" = some 248 ∧ mRow prog 123 "liquidcheck/simplex.minus" = some 243 ∧
  mRow prog 123 "liquidcheck/simplex.times" = some 247 ∧ mRow prog 123 "liquidcheck/simplex.over" = some 244 ∧
  mRow prog 123 "liquidcheck/simplex.sign" = some 246 ∧ mRow prog 123 "liquidcheck/simplex.rational" = some 245 ∧
  mRow prog 123 "liquidcheck/simplex.exact" = some 242 := aX
theorem xfs:xF 216=true/\xF 217=true/\xF 218=true/\xF 219=true/\xF 220=true/\xF 221=true/\xF 222=true/\xF 145=true/\xF 151=true/\xF 137=true/\xF 136=true/\xF 180=true/\xF 170=true/\xF 140=true/\xF 266=true/\xF 147=true/\xF 153=true:=⟨rfl,rfl,rfl,rfl,rfl,rfl,rfl,rfl,rfl,rfl,rfl,rfl,rfl,rfl,rfl,rfl,rfl⟩
end
section
open Go
structure Tb where
 vars:Nat
 real:Nat
 rows:List (List Q)
 cost:List Q
 basis:List Nat
 flip:List Bool
 fl:Bool
def dvS (F:Fld) (b x:Q):Q × Bool:=if sgn x=0 then (x,false) else F.over x b
def divL (F:Fld) (b:Q):List Q->List Q × Bool
 | []=>([],false)
 | x :: l=>((dvS F b x).1 :: (divL F b l).1,(dvS F b x).2 || (divL F b l).2)
def lessK (F:Fld) (row:List Q) (c i k:Nat) (r:List Q):List Q × Bool:=if k=i then (r,false) else lessT F r row c
def lessRows (F:Fld) (row:List Q) (c i:Nat):Nat->List (List Q)->List (List Q) × Bool
 | _,[]=>([],false)
 | k,r :: l=>((lessK F row c i k r).1 :: (lessRows F row c i (k+1) l).1,(lessK F row c i k r).2 || (lessRows F row c i (k+1) l).2)
def at_ {α:Type} (d:α) (l:List α) (k:Nat):α:=(nth l k).getD d
def q0:Q:=(0,1)
def Bj (t:Tb) (i:Nat):List Q:=at_ [] t.rows i
def Eh (F:Fld) (t:Tb) (i c:Nat):Tb :=
 let d:=divL F (at_ q0 (Bj t i) c) (Bj t i)
 let rs:=lessRows F d.1 c i 0 (put t.rows i d.1)
 let k:=lessT F t.cost d.1 c
 { t with rows:=rs.1,cost:=k.1,basis:=put t.basis i c,fl:=((t.fl || d.2) || rs.2) || k.2 }
def worse (basis:List Nat) (s:Int) (k bi:Nat):Bool:=decide (0<s) || (s == 0 && decide (at_ 0 basis bi<at_ 0 basis k))
def B7 (F:Fld) (basis:List Nat) (c W:Nat):Nat->List (List Q)->Option (Nat × Q)->Option (Nat × Q) × Bool
 | _,[],b=>(b,false)
 | k,r :: l,b =>
  if sgn (at_ q0 r c)<=0 then B7 F basis c W (k+1) l b else
   let q:=F.over (at_ q0 r (W - 1)) (at_ q0 r c)
   match b with
   | none=>((B7 F basis c W (k+1) l (some (k,q.1))).1,q.2 || (B7 F basis c W (k+1) l (some (k,q.1))).2)
   | some (bi,least) =>
    let d:=F.minus q.1 least
    let b':=if worse basis (sgn d.1) k bi=true then some (bi,least) else some (k,q.1)
    ((B7 F basis c W (k+1) l b').1,(q.2 || d.2) || (B7 F basis c W (k+1) l b').2)
def Bv (F:Fld) (t:Tb) (c:Nat):Option (Nat × Q) × Bool:=B7 F t.basis c t.cost.length 0 t.rows none
def colF (cost:List Q):Nat->Nat->Option Nat
 | 0,_=>none
 | n+1,k=>if sgn (at_ q0 cost k)<0 then some k else colF cost n (k+1)
def Jo (F:Fld):Nat->Tb->Option (Bool × Tb)
 | 0,_=>none
 | n+1,t=>if (F.stop && t.fl)=true then some (true,t) else
  match colF t.cost t.real 0 with
  | none=>some (true,t)
  | some c=>match Bv F t c with
   | (none,f)=>some (false,{ t with fl:=t.fl || f })
   | (some (i,_),f)=>Jo F n (Eh F { t with fl:=t.fl || f } i c)
def Hz (t:Tb):Bool:=sgn (at_ q0 t.cost (t.cost.length - 1)) == 0
def La (basis:List Nat) (k:Nat):Nat->List (List Q)->Option Nat
 | _,[]=>none
 | i,_ :: l=>if at_ 0 basis i=k then some i else La basis k (i+1) l
def Di (F:Fld) (t:Tb) (k:Nat):Q × Bool:=match La t.basis k 0 t.rows with|some i=>(at_ q0 (Bj t i) (t.cost.length - 1),false)|none=>F.whole 0
def ptF (F:Fld) (t:Tb) (k:Nat):Q × Bool :=
 let a:=Di F t (2*k)
 let b:=Di F t (2*k+1)
 let d:=F.minus a.1 b.1
 (d.1,(a.2 || b.2) || d.2)
def E2 (f:Nat->Q × Bool):Nat->Nat->List Q × Bool
 | 0,_=>([],false)
 | n+1,k=>((f k).1 :: (E2 f n (k+1)).1,(f k).2 || (E2 f n (k+1)).2)
def Gk (F:Fld) (t:Tb):List Q × Bool:=E2 (ptF F t) t.vars 0
def mulF (F:Fld) (t:Tb) (i:Nat):Q × Bool :=
 let y:=F.minus (at_ q0 t.cost (t.real+i)) (F.whole 1).1
 if at_ false t.flip i=true then
  let z:=F.minus (F.whole 0).1 y.1
  (z.1,y.2 || ((F.whole 0).2 || z.2))
 else y
def Jq (F:Fld) (t:Tb):List Q × Bool:=((E2 (mulF F t) t.rows.length 0).1,(F.whole 1).2 || (E2 (mulF F t) t.rows.length 0).2)
structure TI where
 it:Nat
 et:Nat
 ir:Nat
 er:Nat
 ic:Nat
 ec:Nat
 ib:Nat
 eb:Nat
 ids:List (Nat × Nat)
structure Apart (I:TI) (iq:Nat):Prop where
 tr:I.it≠I.ir
 tc:I.it≠I.ic
 tb:I.it≠I.ib
 rc:I.ir≠I.ic
 rb:I.ir≠I.ib
 cb:I.ic≠I.ib
 qt:iq≠I.it
 qr:iq≠I.ir
 qc:iq≠I.ic
 qb:iq≠I.ib
 row:∀ p ∈ I.ids,p.1≠I.it/\p.1≠I.ir/\p.1≠I.ic/\p.1≠I.ib/\p.1≠iq
 rows:∀ i j p q,nth I.ids i=some p->nth I.ids j=some q->i≠j->p.1≠q.1
def dm (W sz:Nat) (x:Nat × Nat):AV:=.sref x.1 x.2 0 W sz
def dd (id ep sz:Nat):Nat->AV
 | 0=>.frz [] .nilc
 | n+1=>.sref id ep 0 (n+1) sz
def Dc (b:Bool):List AV:=[.bool b]
def intA (n:Nat):AV:=.int (n:Int)
theorem Aj {α:Type} {l:List α} {i:Nat} {x:α} (h:nth l i=some x):x ∈ l:=by rw [Af] at h; exact Il h
theorem Ay {α:Type} {d:α} {l:List α} {k:Nat} {x:α} (h:nth l k=some x):at_ d l k=x:=by unfold at_; rw [h]; rfl
theorem J8 {α:Type} {l:List α} {i j:Nat} {x:α} (h:i<l.length):nth (put l i x) j=if j=i then some x else nth l j:=by
 by_cases e:j=i
 ·subst e; rw [if_pos rfl,De h]
 ·rw [if_neg e,Ae (Ix e)]
theorem Ak {α:Type} {l:List α} {i:Nat} {x:α} : (put l i x).length=l.length:=Am
theorem Lw {α:Type} {l:List α} {i:Nat} {x y:α} : put (put l i x) i y=put l i y:=by
 induction l generalizing i with
 | nil=>rfl
 | cons z l ih=>cases i with
  | zero=>rfl
  | succ i=>simp only [put,ih]
theorem Ve {α:Type} {l:List α} {i:Nat} {x:α} (h:nth l i=some x):put l i x=l:=by
 induction l generalizing i with
 | nil=>rfl
 | cons z l ih=>cases i with
  | zero=>simp only [nth,Ba] at h; subst h; rfl
  | succ i=>simp only [nth] at h; simp only [put,ih h]
theorem Bw {α:Type} {l:List α} {i:Nat} {x y:α} (h:y ∈ put l i x):y=x\/y ∈ l:=by
 rw [Vf] at h;rcases List.mem_or_eq_of_mem_set h with h|h
 ·exact .inr h
 ·exact .inl h
theorem Bs {id ep sz n:Nat} (h:0<n):dd id ep sz n=.sref id ep 0 n sz:=by
 cases n with
 | zero=>omega
 | succ n=>rfl
theorem Eb {S:List Ent} {n i e:Nat} (h:i<n):entAt (S.take n) i e=entAt S i e:=by
 unfold entAt;rw [Af,Af,Ms]; simp [h]
theorem QQ.FAq.take {S:List Ent} {n iq eq:Nat} {b:Bool} (h:QQ.FAq S iq eq b) (hi:iq<n):QQ.FAq (S.take n) iq eq b:=by unfold QQ.FAq; rw [Eb hi]; exact h
theorem WW.FAq.take {S:List Ent} {n iq eq:Nat} {b:Bool} (_:WW.FAq S iq eq b) (_:True):WW.FAq (S.take n) iq eq b:=⟨⟩
theorem Gu {α:Type} {l:List α} {n j:Nat} (h:j<n):nth (l.take n) j=nth l j:=by
 rw [Af,Af,Ms]; simp [h]
theorem Bh {α:Type} {l m:List α} {j:Nat} (h:j<l.length):nth (l++m) j=nth l j:=by
 rw [Af,Af,Cv h]
theorem Aml {α:Type} {l:List α} {i:Nat} {x:α} : put l i x=[]↔l=[]:=by
 cases l with
 | nil=>simp [put]
 | cons y l=>cases i <;> simp [put]
end
section
open Go Tryz
def Ao (c:ByteArray × Int):List AV:=[.prim (.string c.1),.prim (.int .i64 c.2)]
def Ag (cs:List (ByteArray × Int)):AV:=.frz (cs.map Ao) .unk
def linA (cs:List (ByteArray × Int)) (n:Int):AV:=.agg [Ag cs,.prim (.int .i64 n)]
def Dx (s:ByteArray):Bool:=sEq s ⟨#[]⟩ || decide ((s.size:Int) > 400)
def Jz:Option ByteArray->ByteArray->Bool
 | none,_=>false
 | some p,s=>sLt s p || sEq s p
def A6 (n:Int):Option ByteArray->List (ByteArray × Int)->Int
 | _,[]=>if inB n then 0 else 2
 | p,c :: cs=>if Dx c.1 then 3 else if c.2 == 0 || !inB c.2 then 2 else if Jz p c.1 then 9 else A6 n (some c.1) cs
def A1 (cs:List (ByteArray × Int)) (n:Int):Int:=if 24<cs.length then 7 else A6 n none cs
def Gw (cs:List (ByteArray × Int)):Nat->Option ByteArray
 | 0=>none
 | j+1=>(nth cs j).map (·.1)
section
variable (S:List Ent) (tk:List Nat) (k:Nat)
theorem Adi (n:Int):cL prog 58 [.int n] S tk k=some (.bool (inB n),S,tk,k):=by
 refine opP func58 ntmps58 ?_;simp +contextual only [ev0,reduceIte,reduceCtorEq,O0,O1,O2,Oc,O3,Sa,Od,O4,Ca,Bm,Cb,results58];exact Ya3d
theorem Aef (n:Int):cL prog 73 [.int n] S tk k=some (.bool (inB n),S,tk,k):=by
 refine opP func73 ntmps73 ?_;simp +contextual only [ev0,reduceIte,reduceCtorEq,O0,O1,O2,Oc,O3,Sa,Od,O4,Ca,Bm,Cb,results73];exact Ya3d
theorem G2 (cs:List (ByteArray × Int)) (n:Int) (hlen:cs.length<=1048576):cL prog 33 [linA cs n] S tk k=some (.int (A1 cs n),S,tk,k):=by
 refine opP func33 ntmps33 ?_;simp (maxSteps:=10^6)+contextual(disch:=try exact dqd)only[ev1,reduceIte,reduceCtorEq,O0,O1,O2,Oc,O3,Sa,Od,O4,Ca,Bm,Cb,results33,linA,Ag];refine ⟨fun h=>?_,fun h=>?_⟩
 ·unfold A1; rw [if_pos fP]
 have hc:A1 cs n=A6 n none cs:=by unfold A1; rw [if_neg fP]
 rw [hc];refine loop1 (fun i st=>st.T.length=57/\i<=cs.length/\getT st.T 1=.ref 0 0 0/\getT st.T 10=Ag cs/\getT st.T 11=.int cs.length/\getT st.T 12=.int (i:Nat)/\st.S=[⟨0,[Ag cs,.int n]⟩]) (fun i=>cs.length - i) (fun i=>.int (A6 n (Gw cs i) (cs.drop i))) 0 ?_ ?_;case refine_2=>exact ⟨rfl,Cl _,rfl,rfl,rfl,rfl,rfl⟩
 rintro i ⟨T,S',tk',n'⟩ ⟨hl,hi,e1,e10,e11,e12,rfl⟩ IH;obtain ⟨g,hg,hT⟩:=Ar hl;rw [hg] at e1 e10 e11 e12;subst hT;clear hg hl h hc;by_cases hlt:i<cs.length
 ·have d1:decide ((i:Int)<(cs.length:Int))=true:=aN
  obtain ⟨c,hc⟩:=Ac hlt;have ew:nth (cs.map Ao) i=some (Ao c):=gE
  have hw:=A4 (i:=i) aA;have hp:Gw cs (i+1)=some c.1:=by simp [Gw,hc]
  rw [Aw hc];rcases i with _|j
  ·have d2:decide (((0:Nat):Int) > 0)=false:=rfl;simp (maxSteps:=10^6)+contextual(disch:=try exact dqd)only[ev1,reduceIte,reduceCtorEq,O0,O1,O2,Oc,O3,Sa,Od,O4,Ca,Bm,Cb,results33,e1,e10,e11,e12,d1,d2,Ag,ew,hw,Ao,Adi];refine ⟨fun h1=>?_,fun h1=>⟨fun h2=>?_,fun h2=>⟨fun h3=>?_,fun h3=>⟨fun h4=>?_,fun h4=>?_⟩⟩⟩⟩
   ·simp [A6,Dx,h1]
   ·exact Ya3z
   ·exact Ya3e
   ·rw [IH 1 _ aA ⟨rfl,aA,rfl,rfl,rfl,rfl,rfl⟩,hp];simp only [A6,Dx,h1,h2,h3,h4,Gw,Jz]; rfl
   ·exact Ya2z
  ·have d2:decide (((j+1:Nat):Int) > 0)=true:=decide_eq_true aA;obtain ⟨p,o8⟩:=Ac (show j<cs.length by omega);have ef:nth (cs.map Ao) j=some (Ao p):=by rw [Dj,o8]; rfl
   have hw':=Ab9 (j:=j) aA;have hpp:Gw cs (j+1)=some p.1:=by simp [Gw,o8]
   simp (maxSteps:=10^6)+contextual(disch:=try exact dqd)only[ev1,reduceIte,reduceCtorEq,O0,O1,O2,Oc,O3,Sa,Od,O4,Ca,Bm,Cb,results33,e1,e10,e11,e12,d1,d2,Ag,ew,hw,Ao,Adi,ef,hw'];refine ⟨fun h1=>?_,fun h1=>⟨fun h2=>?_,fun h2=>⟨fun h3=>?_,fun h3=>⟨fun h4=>?_,fun h4=>?_⟩⟩⟩⟩
   ·simp [A6,Dx,h1]
   ·exact Ya3z
   ·exact Ya3e
   ·refine ⟨fun h5=>?_,fun h5=>?_⟩
    ·exact Ya1k
    ·rw [IH (j+1+1) _ aA ⟨rfl,aA,rfl,rfl,rfl,rfl,rfl⟩,hp];exact Ya1k
   ·exact Ya2z
 ·have d1:decide ((i:Int)<(cs.length:Int))=false:=aN
  have he:i=cs.length:=aA
  simp (maxSteps:=10^6)+contextual(disch:=try exact dqd)only[ev1,reduceIte,reduceCtorEq,O0,O1,O2,Oc,O3,Sa,Od,O4,Ca,Bm,Cb,results33,e1,e10,e11,e12,d1,Ag,Adi];exact Ya35
theorem Kb (cs:List (ByteArray × Int)) (n:Int) (hlen:cs.length<=1048576):cL prog 35 [linA cs n] S tk k=some (.int (A1 cs n),S,tk,k):=by
 refine opP func35 ntmps35 ?_;simp (maxSteps:=10^6)+contextual(disch:=try exact dqd)only[ev1,reduceIte,reduceCtorEq,O0,O1,O2,Oc,O3,Sa,Od,O4,Ca,Bm,Cb,results35,linA,Ag];refine ⟨fun h=>?_,fun h=>?_⟩
 ·unfold A1; rw [if_pos fP]
 have hc:A1 cs n=A6 n none cs:=by unfold A1; rw [if_neg fP]
 rw [hc];refine loop1 (fun i st=>st.T.length=60/\i<=cs.length/\getT st.T 1=.ref 0 0 0/\getT st.T 3=.int (i:Nat)/\st.S=[⟨0,[Ag cs,.int n]⟩]) (fun i=>cs.length - i) (fun i=>.int (A6 n (Gw cs i) (cs.drop i))) 0 ?_ ?_;case refine_2=>exact ⟨rfl,Cl _,rfl,rfl,rfl⟩
 rintro i ⟨T,S',tk',n'⟩ ⟨hl,hi,e1,e3,rfl⟩ IH;obtain ⟨g,hg,hT⟩:=Ar hl;rw [hg] at e1 e3;subst hT;clear hg hl h hc;by_cases hlt:i<cs.length
 ·have d1:decide ((i:Int)<(cs.length:Int))=true:=aN
  obtain ⟨c,hc⟩:=Ac hlt;have ew:nth (cs.map Ao) i=some (Ao c):=gE
  have hw:=A4 (i:=i) aA;have hp:Gw cs (i+1)=some c.1:=by simp [Gw,hc]
  rw [Aw hc];rcases i with _|j
  ·have d2:decide (((0:Nat):Int) > 0)=false:=rfl;simp (maxSteps:=10^6)+contextual(disch:=try exact dqd)only[ev1,reduceIte,reduceCtorEq,O0,O1,O2,Oc,O3,Sa,Od,O4,Ca,Bm,Cb,results35,e1,e3,d1,d2,Ag,ew,hw,Ao,Aef];refine ⟨fun h1=>?_,fun h1=>⟨fun h2=>?_,fun h2=>⟨fun h3=>?_,fun h3=>⟨fun h4=>?_,fun h4=>?_⟩⟩⟩⟩
   ·simp [A6,Dx,h1]
   ·exact Ya3z
   ·exact Ya3e
   ·rw [IH 1 _ aA ⟨rfl,aA,rfl,rfl,rfl⟩,hp];simp only [A6,Dx,h1,h2,h3,h4,Gw,Jz]; rfl
   ·exact Ya2z
  ·have d2:decide (((j+1:Nat):Int) > 0)=true:=decide_eq_true aA;obtain ⟨p,o8⟩:=Ac (show j<cs.length by omega);have ef:nth (cs.map Ao) j=some (Ao p):=by rw [Dj,o8]; rfl
   have hw':=Ab9 (j:=j) aA;have hpp:Gw cs (j+1)=some p.1:=by simp [Gw,o8]
   simp (maxSteps:=10^6)+contextual(disch:=try exact dqd)only[ev1,reduceIte,reduceCtorEq,O0,O1,O2,Oc,O3,Sa,Od,O4,Ca,Bm,Cb,results35,e1,e3,d1,d2,Ag,ew,hw,Ao,Aef,ef,hw'];refine ⟨fun h1=>?_,fun h1=>⟨fun h2=>?_,fun h2=>⟨fun h3=>?_,fun h3=>⟨fun h4=>?_,fun h4=>?_⟩⟩⟩⟩
   ·simp [A6,Dx,h1]
   ·exact Ya3z
   ·exact Ya3e
   ·refine ⟨fun h5=>?_,fun h5=>?_⟩
    ·exact Ya1k
    ·rw [IH (j+1+1) _ aA ⟨rfl,aA,rfl,rfl,rfl⟩,hp];exact Ya1k
   ·exact Ya2z
 ·have d1:decide ((i:Int)<(cs.length:Int))=false:=aN
  have he:i=cs.length:=aA
  simp (maxSteps:=10^6)+contextual(disch:=try exact dqd)only[ev1,reduceIte,reduceCtorEq,O0,O1,O2,Oc,O3,Sa,Od,O4,Ca,Bm,Cb,results35,e1,e3,d1,Ag,Aef];exact Ya35
end
end
section
open Go Tryz
set_option maxRecDepth 100000
abbrev RowT:=List (ByteArray × Int) × Int × Bool
def rowC (r:RowT):List AV:=[Ag r.1,.prim (.int .i64 r.2.1),.prim (.bool r.2.2)]
def Au (l:List RowT):AV:=.frz (l.map rowC) .unk
theorem Kx {l:List RowT} {i:Nat} {r:RowT} (h:nth l i=some r):nth (l.map rowC) i=some (rowC r):=dT
theorem Afz {l:List (ByteArray × Int)} {i:Nat} {c:ByteArray × Int} (h:nth l i=some c):nth (l.map Ao) i=some (Ao c):=dT
theorem Lr {l:List ByteArray} {i:Nat} {s:ByteArray} (h:nth l i=some s):nth (l.map strC) i=some [.prim (.string s)]:=dT
theorem Gg (l:List ByteArray):Db 1 (l.map strC)=true:=Dq (f:=strC) (sz:=1) (fun _=>rfl) l
def Ec (l:List RowT):List ByteArray:=(l.map fun r=>r.1.map (·.1)).flatten
def Ee (l:List RowT):List ByteArray:=uniS (Ec l)
theorem Ahx (l:List RowT) (r:RowT):Ec (l++[r])=Ec l++r.1.map (·.1):=by simp [Ec]
theorem D4 {α:Type} : ∀ {l:List α} {i:Nat} {x:α},nth l i=some x->l.take (i+1)=l.take i++[x]
 | a :: l,0,x,h=>dG
 | a :: l,i+1,x,h=>by simp only [Ga,Co,D4 (l:=l) (i:=i) h]
 | [],_,_,h=>bM
def fewC (l:List RowT):Prop:=∀ r ∈ l,r.1.length<=24
theorem Abj:∀ {l:List RowT},fewC l->(Ec l).length<=24*l.length
 | [],_=>by simp [Ec]
 | r :: l,h=>by
  have h1:=h r (by simp);have h2:=Abj (l:=l) fun x hx=>h x bN;simp only [Ec,Cn,F1,Cm,Fg,Ci] at h2 ⊢;omega
theorem U9 {α:Type} {l:List α} {i:Nat} {x:α} (h:nth l i=some x):x ∈ l:=Il (by rw [Af] at h; exact h)
theorem Aay:∀ (l:List ByteArray) (s:ByteArray),∃ i,i<=l.length/\(∀ j x,j<i->nth l j=some x->sLt x s=true)/\(∀ x,nth l i=some x->sLt x s=false) /\
  putS l s=l.take i++[s]++l.drop (match nth l i with|some x=>if sEq x s=true then i+1 else i|none=>i)
 | [],s=>⟨0,Ce _,fun j x h=>aA,fun x h=>bM,rfl⟩
 | y :: r,s=>by
  cases h1:sLt y s with
  | true =>
   obtain ⟨i,a,b,c,d⟩:=Aay r s;refine ⟨i+1,by simp; exact a,fun j x hj hx=>?_,c,?_⟩
   ·cases j with
    | zero=>simp only [nth,Ba] at hx; subst hx; exact h1
    | succ j=>exact b j x aA hx
   ·rw [putS,if_pos h1,d];simp only [nth];cases nth r i with
    | none=>simp
    | some x=>by_cases h:sEq x s=true <;> simp [h]
  | false =>
   refine ⟨0,Cl _,fun j x hj=>aA,fun x hx=>?_,?_⟩
   ·simp only [nth,Ba] at hx; subst hx; exact h1
   ·rw [putS,if_neg dF];simp only [nth];by_cases h:sEq y s=true
    ·have:y=s:=by rw [Nf] at h; simpa using h
     rw [if_pos h,if_pos h,this]; simp
    ·rw [if_neg h,if_neg h]; simp
section
variable (S:List Ent) (tk:List Nat) (k:Nat)
theorem Ai2 (l:List ByteArray) (s:ByteArray) (c:Cap) (hl:l.length<=100000):cL prog 132 [.frz (l.map strC) c,.str s] S tk k=some (Ap (putS l s),S,tk,k):=by
 obtain ⟨i,ve,h2,h3,h4⟩:=Aay l s;rw [h4];refine opP func132 ntmps132 ?_;simp (maxSteps:=10^6)+contextual(disch:=try exact dqd)only[ev1,simprocAttr,Ca,Bm,Cb,results132];refine loop1 (P:=prog) (fun x st=>st.T.length=52/\(x.1<=i)/\(x.2.1=l.take x.1)/\(Be st.tk x.2.2 1=true)/\getT st.T 0=Ap l/\getT st.T 1=.str s/\getT st.T 5=.frz (x.2.1.map strC) x.2.2/\getT st.T 6=.int (x.1:Nat)/\st.S=[]) (fun x=>i - x.1) (fun x=>Ap (l.take i++[s]++l.drop (match nth l i with|some x=>if sEq x s=true then i+1 else i|none=>i))) (0,[],.nilc) ?_ ?_;case refine_2=>exact ⟨rfl,Cl _,rfl,rfl,rfl,rfl,rfl,rfl,rfl⟩
 rintro ⟨j,out,c⟩ ⟨T,S',tk',n'⟩ ⟨hl,hj,ho,ab,e0,e1,e5,e6,eS⟩ IH;simp only at hj ho ab e0 e1 e5 e6 eS;subst eS;obtain ⟨g,hg,hT⟩:=Ar hl;rw [hg] at e0 e1 e5 e6;subst hT;clear hg hl;have qp:out.length<=l.length:=by rw [ho]; simp; omega
 have htl:(l.map strC).take l.length=l.map strC:=Fc (by simp);have hr:=Gg out;have am:=Bi ab;have ci:(out.map strC).length+1<=1048576:=aC
 have s5:=A4 (i:=j) aA;by_cases hlt:j<i
 ·have d1:decide ((j:Int)<(l.length:Int))=true:=aC
  obtain ⟨x,hx⟩:=Ac (show j<l.length by omega);have hx':=Lr hx;have d2:=h2 j x hlt hx;have vf:=D4 hx;simp (maxSteps:=10^6)+contextual(disch:=try exact dqd)only[ev1,simprocAttr,Ca,Bm,Cb,results132,e0,e1,e5,e6,d1,d2,Ap,hx',hr,s5];exact IH (j+1,out++[x],Az tk' c 1) _ aF ⟨rfl,aE,by rw [vf,ho],am,aI,aI,aI,aI,aI⟩
 have qo:j=i:=aA
 subst qo;subst ho;have ae:=Gg (l.take j++[s]);have hr3:=Gg l;have dy:=Bi am;simp only [Fk,Cn,Cs,strC] at ae;by_cases jd:j<l.length;case neg =>
  have d1:decide ((j:Int)<(l.length:Int))=false:=aC
  have hjn:nth l j=none:=by rw [Af]; exact C5 aA
  have hr4:Db 1 (((l.map strC).take l.length).drop j)=true:=Za1g
  have bo:((l.take j).map strC++[[(.prim (.string s):AV)]]).length+(((l.map strC).take l.length).drop j).length<=1048576:=aC
  simp (maxSteps:=10^6)+contextual(disch:=try exact dqd)only[ev1,simprocAttr,Ca,Bm,Cb,results132,e0,e1,e5,e6,d1,Ap,hr,Hy,hr3,bound,ve,Ce,Cl,ae,hr4]
  simp [hjn,strC,htl]
 have d1:decide ((j:Int)<(l.length:Int))=true:=aC
 obtain ⟨x,hx⟩:=Ac jd;have hx':=Lr hx;have d2:=h3 x hx;have hj1:j+1<=l.length:=jd;cases d3:sEq x s with
 | true =>
  have hr4:Db 1 (((l.map strC).take l.length).drop (j+1))=true:=Za1g
  have bo:((l.take j).map strC++[[(.prim (.string s):AV)]]).length+(((l.map strC).take l.length).drop (j+1)).length<=1048576:=aC
  simp (maxSteps:=10^6)+contextual(disch:=try exact dqd)only[ev1,simprocAttr,Ca,Bm,Cb,results132,e0,e1,e5,e6,d1,d2,d3,hx',s5,Ap,hr,Hy,hr3,bound,hj1,Ce,Cl,ae,hr4];simp [hx,d3,strC,htl]
 | false =>
  have hr4:Db 1 (((l.map strC).take l.length).drop j)=true:=Za1g
  have bo:((l.take j).map strC++[[(.prim (.string s):AV)]]).length+(((l.map strC).take l.length).drop j).length<=1048576:=aC
  simp (maxSteps:=10^6)+contextual(disch:=try exact dqd)only[ev1,simprocAttr,Ca,Bm,Cb,results132,e0,e1,e5,e6,d1,d2,d3,hx',s5,Ap,hr,Hy,hr3,bound,ve,Ce,Cl,ae,hr4];simp [hx,d3,strC,htl]
theorem Ai1 (l:List ByteArray) (s:ByteArray) (c c2:Cap) (hi:Inc l) (hl:l.length<=90000):cL prog 105 [.frz (l.map strC) c,.frz [[.prim (.string s)]] c2] S tk k=some (Ap (putS l s),S,tk,k):=by
 refine opP func105 ntmps105 ?_;simp (maxSteps:=10^6)+contextual(disch:=try exact dqd)only[ev1,simprocAttr,Ca,Bm,Cb,results105];refine loop1 (P:=prog) (fun x st=>st.T.length=33/\(x.1<=l.length)/\(x.2.1=l.take x.1)/\getT st.T 0=Ap l/\getT st.T 1=.frz [[.prim (.string s)]] .unk/\getT st.T 5=.frz (x.2.1.map strC) x.2.2/\getT st.T 8=Ap l/\getT st.T 9=.int l.length/\getT st.T 10=.int (x.1:Nat)/\st.S=[]) (fun x=>l.length - x.1) (fun x=>Ap (putS l s)) (0,[],.nilc) ?_ ?_;case refine_2=>exact ⟨rfl,Cl _,rfl,rfl,rfl,rfl,rfl,rfl,rfl,rfl⟩
 rintro ⟨j,out,c3⟩ ⟨T,S',tk',n'⟩ ⟨hl,hj,ho,e0,e1,e5,e8,e9,e10,eS⟩ IH;simp only at hj ho e0 e1 e5 e8 e9 e10 eS;subst eS;obtain ⟨g,hg,hT⟩:=Ar hl;rw [hg] at e0 e1 e5 e8 e9 e10;subst hT;clear hg hl;have s5:=A4 (i:=j) aA;have qp:out.length<=l.length:=by rw [ho]; simp; omega
 by_cases hlt:j<l.length
 ·have d1:decide ((j:Int)<(l.length:Int))=true:=aN
  obtain ⟨x,hx⟩:=Ac hlt;have hx':=Lr hx;have hP S tk k:=Ai2 S tk k out x c3 aA;have hpe:putS out x=out++[x]:=Af2 fun y hy=>by
   rw [ho] at hy;have h1:Inc (l.take j++l.drop j):=by rw [Ir]; exact hi
   exact (List.pairwise_append.1 h1).2.2 y hy x (by rw [Aw hx]; simp)
  rw [hpe] at hP;simp only [Ap] at hP;have vf:=D4 hx;simp (maxSteps:=10^6)+contextual(disch:=try exact dqd)only[ev1,simprocAttr,Ca,Bm,Cb,results105,e0,e1,e5,e8,e9,e10,d1,Ap,hx',s5,hP];exact IH (j+1,out++[x],.unk) _ aF ⟨rfl,aE,by rw [vf,ho],aI,aI,aI,aI,aI,aI,aI⟩
 ·have d1:decide ((j:Int)<(l.length:Int))=false:=aN
  have qo:j=l.length:=aA
  subst qo;rw [Fb] at ho;subst ho;have hP S tk k:=Ai2 S tk k out s c3 aA;simp only [Ap] at hP;simp (maxSteps:=10^6)+contextual(disch:=try exact dqd)only[ev1,simprocAttr,Ca,Bm,Cb,results105,e0,e1,e5,e8,e9,e10,d1,Ap];refine loop1 (P:=prog) (fun x st=>st.T.length=33/\(x<=1)/\getT st.T 1=.frz [[.prim (.string s)]] .unk/\getT st.T 5=(if x=0 then .frz (out.map strC) c3 else Ap (putS out s))/\getT st.T 20=.frz [[.prim (.string s)]] .unk/\getT st.T 21=.int ((1:Nat):Int)/\getT st.T 22=.int (x:Nat)/\st.S=[]) (fun x=>1 - x) (fun x=>Ap (putS out s)) (0) ?_ ?_;case refine_2=>exact ⟨rfl,Cl _,rfl,rfl,rfl,rfl,rfl,rfl⟩
  rintro j ⟨T,S',tk',n'⟩ ⟨hl,hj,e1,e5,e20,e21,e22,eS⟩ IH;subst eS;obtain ⟨g,hg,hT⟩:=Ar hl;rw [hg] at e1 e5 e20 e21 e22;subst hT;clear hg hl;by_cases h0:j=0
  ·subst h0;rw [if_pos rfl] at e5;have d2:decide (((0:Nat):Int)<((1:Nat):Int))=true:=rfl;have a3s:Cd.wrap (((0:Nat):Int)+1)=((1:Nat):Int):=Aa aD;simp (maxSteps:=10^6)+contextual(disch:=try exact dqd)only[ev1,simprocAttr,Ca,Bm,Cb,results105,e1,e5,e20,e21,e22,d2,a3s,hP];exact IH (1) _ aF ⟨rfl,aE,aI,aI,aI,aI,aI,aI⟩
  ·have hj1:j=1:=aA
   subst hj1;rw [if_neg aA] at e5;have d2:decide (((1:Nat):Int)<((1:Nat):Int))=false:=rfl;simp (maxSteps:=10^6)+contextual(disch:=try exact dqd)only[ev1,simprocAttr,Ca,Bm,Cb,results105,e1,e5,e20,e21,e22,d2,Ap]
end
end
section
open Go Tryz
def nX:ByteArray:=⟨#[120]⟩
def nY:ByteArray:=⟨#[121]⟩
def lA:List RowT:=[([(nX,1),(nY,-1)],0,false),([(nX,-1)],1,false)]
def lB:List RowT:=[([(nY,1)],0,false)]
def rIt:RowT:=([(nY,-1)],1,false)
def kzB (n:Int):List AV:=[.prim (.bool (decide (n<0))),if n=0 then .frz [] .unk else .frz [[Ca n.natAbs]] .unk]
def kzA (l:List Int):AV:=.frz (l.map kzB) .unk
def kqA (n:Int):AV:=.agg (kzB n++kzB 1)
def kq2 (x y z:Int):List AV × AV:=([kqA x,kqA y],kqA z)
def kq1 (x y:Int):List AV × AV:=([kqA x],.int y)
abbrev TabL:=List (Nat × List (List AV × AV))
def tblR:TabL:=[(139,[kq2 (-2) (-2) 0,kq2 (-2) 0 (-2),kq2 (-1) (-2) 1,kq2 (-1) (-1) 0,kq2 (-1) 0 (-1),kq2 (-1) 1 (-2),kq2 0 (-2) 2,kq2 0 (-1) 1,kq2 0 0 0,kq2 0 1 (-1),kq2 0 2 (-2),kq2 1 (-1) 2,kq2 1 0 1,kq2 1 1 0,kq2 2 0 2,kq2 2 2 0]),
 (141,[kq1 (-2) (-1),kq1 (-1) (-1),kq1 0 0,kq1 1 1,kq1 2 1]),(179,[kq2 (-1) 1 (-1),kq2 0 1 0,kq2 1 1 1]),
 (188,[kq2 (-2) (-1) 2,kq2 (-2) 0 0,kq2 (-2) 1 (-2),kq2 (-1) (-1) 1,kq2 (-1) 0 0,kq2 (-1) 1 (-1),kq2 1 (-1) (-1),kq2 1 0 0,kq2 1 1 1]),
 (178,[([kqA 0,kqA 1],.int (-1)),([kqA 1,kqA 0],.int 1)]),(138,[([.int 0],kqA 0),([.int 1],kqA 1),([.int (-1)],kqA (-1))])]
theorem Atd:Tab prog (tbT (tblR++[])):=Vv R1 R1 aM
def rI (b:Bool):AV:=.tup [.bool b,.int 0]
end
end Go.Proofs.YthelkgdmgihhiaaGreat
