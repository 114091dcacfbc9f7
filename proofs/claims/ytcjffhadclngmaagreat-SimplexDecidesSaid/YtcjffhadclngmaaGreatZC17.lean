/- Part 17. -/
import Derived.Test.YtcjffhadclngmaaGreatZC16
open And renaming intro->Bu
open Bool renaming and_eq_true->Ci,or->Cj,false_eq_true->Ef,or_false->Fk,or_assoc->Fo,false_and->Fq,true_and->F0,false_ne_true->F6,or_eq_true->Kn,not_eq_true'->Ob,not_false->Oe,false_or->Oi,not_true->Oj,eq_iff_iff->S9
open Go.Code renaming loop->lC
open Go.IntKind renaming i64->Ca
open Go.Proofs.YtcjffhadclngmaaGreat.AV renaming bool->Bg,int->Cb,str->Cc
open Int renaming tdiv_eq_ediv_of_nonneg->Fe,mul_comm->Hk,tmod_eq_emod_of_nonneg->Ic,natAbs_mul->Ii,mul_assoc->Ij,mul_ne_zero->Il,reduceNeg->It,natCast_nonneg->Sy,neg_mul->iD,mul_nonneg->jI,natAbs_tdiv->kK
open List renaming replicate->Cf,length_cons->Ch,length_append->Cm,cons_append->Cn,length_nil->Co,nil_append->Cq,map_cons->Ct,getElem?_eq_none->Cu,mem_cons->Cv,getElem?_map->Cw,drop_eq_nil_of_le->Cy,getElem?_append_left->C3,length_eq_zero_iff->C4,take_of_length_le->C6,map_nil->Ei,append_assoc->Fa,getElem?_append_right->Fc,drop_zero->Fg,length_map->Fj,take_length->Fm,mem_map->Ft,getElem?_eq_some_iff->Fx,flatten_cons->F3,map_append->F4,take_succ_cons->F7,length_pos_iff->F8,take->Ib,drop_length->Ik,getElem?_eq_getElem->Iw,length_replicate->I1,mem_of_getElem?->I8,getElem?_take->Od,take_append_drop->Oq,mem_flatten->iG,drop_append->iI,set_cons_succ->iW,getElem?_replicate->jD,set_append_right->jN,mem_of_mem_take->kE,getElem?_of_mem->kG
open Nat renaming le_refl->Ce,zero_le->Cl,mul_one->C9,zero_add->El,le_trans->Fs,lt_of_lt_of_le->F1,reduceAdd->F5,reduceEqDiff->F9,reduceLeDiff->G8,lt_or_ge->Im,reduceSub->Ip,reduceBEq->Iq,reduceMul->Ir,gcd_pos_of_pos_right->Iy,add_zero->I5,reduceLT->I6,lt_of_le_of_lt->J9,succ_mul->Oa,gcd_zero_right->Og,sub_self->Ol,zero_mul->Ov,mul_comm->Ox,div_lt_iff_lt_mul->O1,mod_eq_of_lt->Po,mod_lt->Si,strongRecOn->Sk,div_le_self->Sn,pow_succ->Sp,div_add_mod->iU,gcd_comm->jM,le_div_iff_mul_le->jR,gcd_le_right->jZ
open Ne renaming symm->Ih
open Option renaming map_some->C8,getD_some->Nl,bind_some->Ou
open Option.some renaming injEq->A8
open Prod.mk renaming injEq->Cg
namespace Go.Proofs.YtcjffhadclngmaaGreat
section
open Go Tryz
set_option maxHeartbeats 1000000
set_option maxRecDepth 100000
theorem Afi:∀ {l:List Int} {i:Nat} {x:Int},nth l i=some x->l.set i x=l
 | _ :: _,0,_,h=>dS
 | _ :: l,i+1,_,h=>by simp only [nth] at h; simp only [iW,Afi h]
 | [],_,_,h=>bK
section
variable (S:List Ent) (tk:List Nat) (k:Nat)
theorem Aaz (l:List Int) (id ep:Nat) (hlen:l.length<=1000000) (h:entAt S id ep=some (l.map numC)):cL prog 97 [.sref id ep 0 l.length 1] S tk k=some (.sref id ep 0 (D0 l).length 1,S,tk,k):=by
 refine opS func97 ntmps97 ?_;have hid:id<S.length:=by
  obtain ⟨e,h1,-⟩:=D4 h;exact Br h1
 simp (maxSteps:=10^6)+contextual(disch:=try exact dqd)only[evs1,simprocAttr,Cb,Bg,Cc,results97];refine Ai5 (P:=prog) (fun x st=>st.T.length=22/\(x<=l.length)/\(∀ j,x<=j->∀ x,nth l j=some x->x=0)/\getT st.T 0=.sref id ep 0 l.length 1/\getT st.T 3=.int (x:Nat)/\st.S=S/\st.tk=tk/\st.n=k) (fun x=>x) (fun x=>(.sref id ep 0 (D0 l).length 1,S,tk,k)) (l.length) ?_ ?_;case refine_2=>exact ⟨rfl,Ce _,Qd l,rfl,rfl,rfl,rfl,rfl⟩
 rintro n ⟨T,S',tk',n'⟩ ⟨hl,hn,hz,e0,e3,eS,eT,eN⟩ IH;subst eS eT eN;obtain ⟨g,hg,hT⟩:=Au hl;rw [hg] at e0 e3;subst hT;clear hg hl;by_cases h0:n=0
 ·have d1:decide ((n:Int) > 0)=false:=aD
  have ht:=G1 hn hz (.inl h0);simp (maxSteps:=10^6)+contextual(disch:=try exact dqd)only[evs1,simprocAttr,Cb,Bg,Cc,results97,e0,e3,d1,Jg,bound,intN_cast,hn,Ce,Cl,Ov,Nat.sub_zero,I5];rw [ht]; simp [h0]
 ·have d1:decide ((n:Int) > 0)=true:=aD
  have hp:=Ud h0 aA;have bo:n - 1<l.length:=aA
  obtain ⟨x,hx⟩:=Af bo;have hx':=Ae4 hx;by_cases mc:x=0
  ·have d2:(x == 0)=true:=cM
   simp (maxSteps:=10^6)+contextual(disch:=try exact dqd)only[evs1,simprocAttr,Cb,Bg,Cc,results97,e0,e3,d1,d2,hp,hx',h,bo,C9,El];exact IH (n - 1) _ aF ⟨rfl,aE,Vr hz hx mc,Za0s⟩
  ·have d2:(x == 0)=false:=cM
   have ht:=G1 hn hz (.inr ⟨x,hx,mc⟩);simp (maxSteps:=10^6)+contextual(disch:=try exact dqd)only[evs1,simprocAttr,Cb,Bg,Cc,results97,e0,e3,d1,d2,hp,hx',h,bo,C9,El,Jg,bound,intN_cast,hn,Ce,Cl,Ov,Nat.sub_zero,I5];rw [ht]; simp; omega
theorem stepX {r X n:Nat} (hr:(dig r).length<=n) (hX:X<10000*r+10000):(dig X).length<=n+1:=by
 rw [Bp] at hr ⊢;rw [Sp]; omega
theorem Aqh {lo hi:Nat} (h:lo<hi) (hh:hi<10000):(((lo:Int)+(hi:Int))+1).tdiv 2=(((lo+hi+1) / 2:Nat):Int):=by
 rw [Fe aA]; omega
theorem Yr (A B:Nat) (ha:(dig A).length<=90000) (a4h:(dig B).length<=90000) (hB:0<B):cL prog 69 [digA (dig A),digA (dig B)] S tk k=some (.tup [digA (dig (A / B)),digA (dig (A % B))],S,tk,k):=by
 refine opP func69 ntmps69 (hp3:=rfl) ?_;have hbo:(Be prog 37).bind (Ja prog)=some 8:=aI
 have mh:=Amu (P:=prog) (t:=37) (n:=(dig A).length) bA bA hbo aA;have d3:=Jd (n:=(dig A).length) aA;have aj:=Pv.start (A:=A) (b:=(B:Int)) aA;simp (maxSteps:=10^6)+contextual(disch:=try exact dqd)only[ev1,simprocAttr,Cb,Bg,Cc,results69,digA,mh,d3];refine loop1 (P:=prog) (fun x st=>st.T.length=61/\(x.1<=(dig A).length)/\(Pv A B x.1 ((x.2.1:Nat):Int) x.2.2.1)/\(∀ j,j<x.1->nth x.2.2.1 j=some 0)/\getT st.T 0=digA (dig A)/\getT st.T 1=digA (dig B)/\getT st.T 6=.sref 0 0 0 (dig A).length 1/\getT st.T 7=.frz ((dig x.2.1).map digC) x.2.2.2/\getT st.T 8=.int ((x.1:Int) - 1)/\st.S=[⟨0,x.2.2.1.map numC⟩]) (fun x=>x.1) (fun x=>.tup [digA (dig (A / B)),digA (dig (A % B))]) ((dig A).length,0,Cf (dig A).length 0,.nilc) ?_ ?_;case refine_2=>exact ⟨rfl,Ce _,aj,fun j hj=>by rw [Ag,jD,if_pos hj],rfl,rfl,rfl,rfl,rfl,rfl⟩
 rintro ⟨m,r,out,c⟩ ⟨T,S',tk',n'⟩ ⟨hl,hm,hp,hz,e0,e1,e6,e7,e8,eS⟩ IH;simp only at hm hp hz e0 e1 e6 e7 e8 eS;subst eS;obtain ⟨g,hg,hT⟩:=Au hl;rw [hg] at e0 e1 e6 e7 e8;subst hT;clear hg hl;have OUT:=IH;clear IH;have hlen:=hp.len;by_cases h0:m=0
 ·have d2:decide ((m:Int) - 1 >= 0)=false:=aD
  subst h0;obtain ⟨q1,q2⟩:=hp.done;have hT:=fun tk k=>Aaz [⟨0,out.map numC⟩] tk k out 0 0 aA rfl;have hfz:=Avh (m:=0) (id:=0) (ep:=0) (S:=[⟨0,out.map numC⟩]) (Cl _) rfl (Rf out);rw [<- H9,q1] at hfz;rw [hlen,q1] at hT;have q3:r=A % B:=by simpa using q2
  rw [q3] at e7;simp (maxSteps:=10^6)+contextual(disch:=try exact dqd)only[ev1,simprocAttr,Cb,Bg,Cc,results69,digA,e0,e1,e6,e7,e8,d2,hT,hfz]
 have d2:decide ((m:Int) - 1 >= 0)=true:=aD
 have hi:(m:Int) - 1=((m - 1:Nat):Int):=aA
 obtain ⟨x,hx⟩:=Af (show m - 1<(dig A).length by omega);have hx':=B2 hx;have hxk:=Ed (Bo A) hx;have ho:=hz (m - 1) aA;have hrB:r<B:=by have:=hp.r0; omega
 have iw:(dig r).length<=90000:=Fs (Qj (Nat.le_of_lt hrB)) a4h;obtain ⟨hq,g1,g2,g3,g4⟩:=hp.step h0 hm hx;obtain ⟨X,hX⟩:∃ X:Nat,X=r*10000+x.toNat:=⟨_,rfl⟩;have hXi:((r:Nat):Int)*10000+x=(X:Int):=aA
 rw [hXi] at hq g1 g2 g3 g4;have wh:((X:Nat):Int).tdiv (B:Int)=((X / B:Nat):Int):=by
  rw [Fe (Sy _),<- Int.natCast_ediv]
 have tx:((X:Nat):Int).tmod (B:Int)=((X % B:Nat):Int):=by
  rw [Ic (Sy _),<- Int.natCast_emod]
 rw [wh,tx] at hq;rw [wh] at g1 g2;have hQ9:X / B<10000:=by have:=Int.ofNat_lt.1 g2; exact this
 clear g1 g2 g3 g4 wh tx;have a0r:X - B*(X / B)=X % B:=by have:=iU X B; omega
 have hXl:(dig X).length<=90000+1:=stepX iw aA;obtain ⟨Q,hQd⟩:∃ Q,Q=X / B:=⟨_,rfl⟩;rw [<- hQd] at hq hQ9 a0r;have htr:D0 (x :: dig r)=dig X:=by
  have hk:okD (x :: dig r):=fun d hd=>by
   rcases Cv.1 hd with rfl|hd
   ·exact hxk
   ·exact Bo r d hd
  rw [Ey hk,val,B5];congr 1; omega
 have hT:=fun c S tk k=>T2 S tk k (x :: dig r) c aD;rw [htr] at hT;simp only [Ct,digC,digA] at hT;have bz:Dk 1 ((dig r).map digC)=true:=D5 _;have ae:([[(.prim (.int .i64 x):AV)]]).length+((dig r).map digC).length<=1048576:=aD
 have hok1:Bn tk' .tight 1=true:=rfl;have hpw:=Jd (n:=m - 1) aA;have hL:=fun S tk k=>Yq S tk k X B aA aA;have iv:∀ (v:Int) j,j<m - 1->nth (out.set (m - 1) v) j=some 0:=fun v j hj=>by
  have:=hz j aA;rw [Ag] at this ⊢;rw [List.getElem?_set_ne aA]; exact this
 simp only [digA] at hL;rw [hi] at e8 d2;by_cases y3:X<B
 ·have c8:decide (X<B)=true:=by simpa using y3
  rw [c8] at hL;have hQ0:Q=0:=by rw [hQd,Nat.div_eq_of_lt y3]
  subst hQ0;have hXm:X % B=X:=Po y3;have hz0:=iv 0;rw [show ((0:Nat):Int)=0 from rfl,Afi ho,hXm] at hq;rw [Afi ho] at hz0;simp (maxSteps:=10^6)+contextual(disch:=try exact dqd)only[ev1,simprocAttr,Cb,Bg,Cc,results69,digA,e0,e1,e6,e7,e8,d2,hx',hT,bz,hL,hpw,Qr];exact OUT (m - 1,X,out,.unk) _ aF ⟨rfl,aE,hq,hz0,aB,aB,aB,aB,aB,aB⟩
 have c8:decide (X<B)=false:=by simpa using y3
 rw [c8] at hL;simp (maxSteps:=10^6)+contextual(disch:=try exact dqd)only[ev1,simprocAttr,Cb,Bg,Cc,results69,digA,e0,e1,e6,e7,e8,d2,hx',hT,bz,hL,Qr];clear hT bz ae d3 htr aj;refine loop1 (P:=prog) (fun x st=>st.T.length=61/\(x.1<=Q)/\(Q<=x.2)/\(x.2<10000)/\getT st.T 0=digA (dig A)/\getT st.T 1=digA (dig B)/\getT st.T 6=.sref 0 0 0 (dig A).length 1/\getT st.T 7=digA (dig X)/\getT st.T 8=.int ((m - 1:Nat):Int)/\getT st.T 9=.int ((x.1:Nat):Int)/\getT st.T 10=.int ((x.2:Nat):Int)/\st.S=[⟨0,out.map numC⟩]) (fun x=>x.2 - x.1) (fun x=>.tup [digA (dig (A / B)),digA (dig (A % B))]) (0,9999) ?_ ?_;case refine_2=>exact ⟨rfl,Cl _,aA,aA,rfl,rfl,rfl,rfl,rfl,rfl,rfl,rfl⟩
 rintro ⟨lo,hi⟩ ⟨T,S',tk',n'⟩ ⟨hl,se,hhi,h9,e0,e1,e6,e7,e8,e9,e10,eS⟩ IH;simp only at se hhi h9 e0 e1 e6 e7 e8 e9 e10 eS;subst eS;obtain ⟨g,hg,hT⟩:=Au hl;rw [hg] at e0 e1 e6 e7 e8 e9 e10;subst hT;clear hg hl;have a4i:(dig B).length<=100000:=aA
 by_cases hlt:lo<hi
 ·have d3:decide (((lo:Nat):Int)<((hi:Nat):Int))=true:=aQ
  have f1:Ca.wrap ((lo:Int)+(hi:Int))=(lo:Int)+(hi:Int):=Ac aC;have f2:Ca.wrap ((lo:Int)+(hi:Int)+1)=(lo:Int)+(hi:Int)+1:=Ac aC;have f3:=Aqh hlt h9;obtain ⟨mid,a5v⟩:∃ mid,mid=(lo+hi+1) / 2:=⟨_,rfl⟩;rw [<- a5v] at f3;have f4:Ca.wrap ((mid:Nat):Int)=(mid:Int):=Ac aC;have f5:Ca.wrap ((mid:Int) - 1)=((mid - 1:Nat):Int):=aS
  have iv:¬ ((2:Int)=0):=aA
  have oi:=fun S tk k=>Xl S tk k B mid aA a4i;have hBm:(dig (B*mid)).length<=100000:=by
   have h9:=N8 (X:=B) (Y:=mid) a4h (n:=1) (Bp.2 aA); omega
  have hC:=fun S tk k=>Yq S tk k X (B*mid) aA aA;simp only [digA] at oi hC;by_cases hle:B*mid<=X
  ·have d4:decide (X<B*mid)=false:=aD
   rw [d4] at hC;have hmQ:mid<=Q:=by rw [hQd,jR hB,Ox]; exact hle
   simp (maxSteps:=10^6)+contextual(disch:=try exact dqd)only[ev1,simprocAttr,Cb,Bg,Cc,results69,digA,e0,e1,e6,e7,e8,e9,e10,d3,f1,f2,f3,f4,iv,oi,hC];exact IH (mid,hi) _ aF ⟨rfl,hmQ,hhi,h9,aB,aB,aB,aB,aB,aB,aB,aB⟩
  ·have d4:decide (X<B*mid)=true:=aD
   rw [d4] at hC;have hmQ:Q<mid:=by
    rw [hQd,O1 hB,Ox]; omega
   simp (maxSteps:=10^6)+contextual(disch:=try exact dqd)only[ev1,simprocAttr,Cb,Bg,Cc,results69,digA,e0,e1,e6,e7,e8,e9,e10,d3,f1,f2,f3,f4,f5,iv,oi,hC];exact IH (lo,mid - 1) _ aF ⟨rfl,se,aE,aE,aB,aB,aB,aB,aB,aB,aB,aB⟩
 ·have d3:decide (((lo:Nat):Int)<((hi:Nat):Int))=false:=aQ
  have a5w:lo=Q:=aA
  subst a5w;have oi:=fun S tk k=>Xl S tk k B lo aA a4i;have hBQ:B*lo<=X:=by rw [hQd]; exact Nat.mul_div_le _ _
  have hM:=fun S tk k=>Uq S tk k X (B*lo) hBQ aA;rw [a0r] at hM;simp only [digA] at oi hM;have ky:=Z0 (v:=(lo:Int)) ho;have gd:m - 1<(dig A).length:=aA
  simp (maxSteps:=10^6)+contextual(disch:=try exact dqd)only[ev1,simprocAttr,Cb,Bg,Cc,results69,digA,e0,e1,e6,e7,e8,e9,e10,d3,oi,hM,ky,gd,hpw,C9];exact OUT (m - 1,X % B,out.set (m - 1) (lo:Int),.unk) _ aF ⟨rfl,aE,hq,iv (lo:Int),aB,aB,aB,aB,aB,aB⟩
theorem Xk (a b:Nat) (ha:(dig a).length<=90000) (hb:(dig b).length<=90000):cL prog 43 [digA (dig a),digA (dig b)] S tk k=some (digA (dig (a.gcd b)),S,tk,k):=by
 refine opP func43 ntmps43 ?_;simp (maxSteps:=10^6)+contextual(disch:=try exact dqd)only[ev1,simprocAttr,Cb,Bg,Cc,results43,digA];refine loop1 (P:=prog) (fun x st=>st.T.length=19/\(x.1.gcd x.2=a.gcd b)/\((dig x.1).length<=90000)/\((dig x.2).length<=90000)/\getT st.T 0=digA (dig x.1)/\getT st.T 1=digA (dig x.2)/\st.S=[]) (fun x=>x.2) (fun x=>digA (dig (a.gcd b))) (a,b) ?_ ?_;case refine_2=>exact ⟨rfl,rfl,ha,hb,rfl,rfl,rfl⟩
 rintro ⟨x,y⟩ ⟨T,S',tk',n'⟩ ⟨hl,hg,hx,hy,e0,e1,eS⟩ IH;simp only at hg hx hy e0 e1 eS;subst eS;obtain ⟨g,hg,hT⟩:=Au hl;rw [hg] at e0 e1;subst hT;clear hg hl;by_cases h0:y=0
 ·subst h0;have d1:decide ((((dig 0).length:Nat):Int) > 0)=false:=rfl;rw [Og] at hg;simp (maxSteps:=10^6)+contextual(disch:=try exact dqd)only[ev1,simprocAttr,Cb,Bg,Cc,results43,e0,e1,d1,digA];rw [hg]
 ·have hyl:0<(dig y).length:=F8.2 fun h=>h0 (Gh.1 h);have d1:decide (((dig y).length:Int) > 0)=true:=aD
  have hQ:=fun S tk k=>Yr S tk k x y hx hy aA;simp only [digA] at hQ;have hlt:=Si x (by omega:0<y);have hym:(dig (x % y)).length<=90000:=Fs (Bp.2 (Nat.lt_trans hlt (Bp.1 (Ce _)))) hy;have hgn:y.gcd (x % y)=a.gcd b:=Za09
  simp (maxSteps:=10^6)+contextual(disch:=try exact dqd)only[ev1,simprocAttr,Cb,Bg,Cc,results43,e0,e1,d1,digA,hQ];exact Ya27
end
end
section
open Go Tryz
set_option maxRecDepth 100000
theorem Atm {n:Nat} : (decide ((dig n).length=1) && ((nth (dig n) 0).getD 0 == 1))=decide (n=1):=by
 rw [S9];simp only [Ci,decide_eq_true_eq,beq_iff_eq];constructor
 ·rintro ⟨h1,h2⟩;have h3:val (dig n)=n:=B5 n;match hd:dig n,h1 with
  | [x],_ =>
   rw [hd] at h2 h3;simp only [nth,Nl] at h2;simp only [val] at h3;omega
 ·rintro rfl;have ve:dig 1=[(1:Int)]:=N9 (d:=(1:Int)) aA aA;rw [ve]; exact ⟨rfl,rfl⟩
section
variable (S:List Ent) (tk:List Nat) (k:Nat)
theorem Es (x y:Int) (hx:(dig x.natAbs).length<=45000) (hy:(dig y.natAbs).length<=45000):cL prog 47 [zA x,zA y] S tk k=some (zA (x*y),S,tk,k):=by
 refine opP func47 ntmps47 (hp3:=rfl) ?_;have hT:=fun S tk k=>Aj6 S tk k x.natAbs y.natAbs hx hy;have hs:=Anu x y;have hp:=Ke (x.natAbs*y.natAbs);simp only [digA] at hT;rw [<- hs];have wd:(decide (x<0) != decide (y<0))=!(decide (x<0) == decide (y<0)):=rfl;rw [wd];cases d3:decide (x<0) == decide (y<0) with
 | true=>simp (maxSteps:=10^6)+contextual(disch:=try exact dqd)only[ev1,simprocAttr,Cb,Bg,Cc,results47,zA,bigA,digA,hT,d3,wd,hp,Oj,Oe,F0,Fq]
 | false=>simp (maxSteps:=10^6)+contextual(disch:=try exact dqd)only[ev1,simprocAttr,Cb,Bg,Cc,results47,zA,bigA,digA,hT,d3,wd,hp,Oj,Oe,F0,Fq]
theorem Aax (p:Bool) (l:List Int) (q:Bool) (r:List Int) (hl:l.length<=1000000) (hr:r.length<=1000000):cL prog 17 [ratA p l q r] S tk k=some (.bool (Kl p l q r),S,tk,k):=by
 have np:=fun S tk k=>told (E:=E1) (Aaw S tk k p l .unk hl);have nq:=fun S tk k=>told (E:=E1) (Aaw S tk k q r .unk hr);refine opP func17 ntmps17 (hp3:=rfl) ?_;unfold Kl;cases h1:D8 p l with
 | false =>
  rw [h1] at np;simp (maxSteps:=10^6)+contextual(disch:=try exact dqd)only[ev1,simprocAttr,Cb,Bg,Cc,results17,ratA,digA,np,Fq]
 | true =>
 rw [h1] at np;cases h2:D8 q r with
 | false =>
  rw [h2] at nq;simp (maxSteps:=10^6)+contextual(disch:=try exact dqd)only[ev1,simprocAttr,Cb,Bg,Cc,results17,ratA,digA,np,nq,Fq,F0]
 | true =>
 rw [h2] at nq;obtain ⟨hp,dt⟩:=Hb h1;obtain ⟨hq,re⟩:=Hb h2;have lu:=(J5 h1).2.2;have iw:=(J5 h2).2.2;by_cases wg:q=true
 ·subst wg;have hg:Nw (V p l) (V true r)=false:=by
   have:V true r<0:=fJ
   have h3:¬ 0<V true r:=aA
   simp [Nw,h3]
  rw [hg];simp (maxSteps:=10^6)+contextual(disch:=try exact dqd)only[ev1,simprocAttr,Cb,Bg,Cc,results17,ratA,digA,np,nq,F0]
 ·have hqf:q=false:=by simpa using wg
  subst hqf;have di:0<=V false r:=by
   have:¬ V false r<0:=fJ
   omega
  by_cases cg:r=[]
  ·subst cg;have hg:Nw (V p l) (V false [])=false:=by
    have:V false []=0:=Za4p
    simp [Nw,this]
   rw [hg];simp only [Ei] at nq;have iz:(((0:Nat):Int) == 0)=true:=rfl;simp (maxSteps:=10^6)+contextual(disch:=try exact dqd)only[ev1,simprocAttr,Cb,Bg,Cc,results17,ratA,digA,np,nq,iz,F0]
  ·have yy:(((r.length:Nat):Int) == 0)=false:=by
    exact Ya3c
   have hd1:0<V false r:=by
    have:(V false r).natAbs≠0:=fun e=>cg (by rw [re,e,B9]);omega
   have hgd:Nw (V p l) (V false r)=decide ((V p l).natAbs.gcd (V false r).natAbs=1):=by simp [Nw,hd1]
   rw [hgd,<- Atm];have hD:=fun S tk k=>Xk S tk k (V p l).natAbs (V false r).natAbs (by rw [<- dt]; omega) (by rw [<- re]; omega);rw [<- dt,<- re] at hD;simp only [digA] at hD;obtain ⟨g,hg⟩:∃ g,g=(V p l).natAbs.gcd (V false r).natAbs:=⟨_,rfl⟩;rw [<- hg] at hD ⊢;by_cases hg1:(dig g).length=1
   ·have g1:(((dig g).length:Int) == 1)=true:=by rw [hg1]; rfl
    obtain ⟨x,hx⟩:=Af (show 0<(dig g).length by omega);have hx':=B2 hx;rw [hx,Nl];have g2:decide ((dig g).length=1)=true:=by simpa using hg1
    rw [g2];simp (maxSteps:=10^6)+contextual(disch:=try exact dqd)only[ev1,simprocAttr,Cb,Bg,Cc,results17,ratA,digA,np,nq,yy,hD,g1,hx',F0]
   ·have g1:(((dig g).length:Int) == 1)=false:=aD
    have g2:decide ((dig g).length=1)=false:=by simpa using hg1
    rw [g2];simp (maxSteps:=10^6)+contextual(disch:=try exact dqd)only[ev1,simprocAttr,Cb,Bg,Cc,results17,ratA,digA,np,nq,yy,hD,g1,Fq,F0]
theorem H2 (p:Bool) (l:List Int) (q:Bool) (r:List Int) (hl:l.length<=1000000) (hr:r.length<=1000000):cL prog 44 [ratA p l q r] S tk k=some (qA (nQ p l q r) (dQ p l q r),S,tk,k):=by
 have hV:=fun S tk k=>Aax S tk k p l q r hl hr;have hZ:=fun S tk k=>Ao0 S tk k;refine opP func44 ntmps44 (hp3:=rfl) ?_;unfold nQ dQ;cases h:Kl p l q r with
 | true =>
  rw [h] at hV;have e:=Ye h;simp only [if_true];rw [<- e];simp only [ratA,digA] at hV;simp (maxSteps:=10^6)+contextual(disch:=try exact dqd)only[ev1,simprocAttr,Cb,Bg,Cc,results44,ratA,digA,hV]
 | false =>
  rw [h] at hV;simp only [Ef,if_false];simp only [ratA,qA,digA] at hV hZ;simp (maxSteps:=10^6)+contextual(disch:=try exact dqd)only[ev1,simprocAttr,Cb,Bg,Cc,results44,ratA,qA,digA,hV,hZ]
theorem Ri (n d:Int) (hn:(dig n.natAbs).length<=90000) (hd:(dig d.natAbs).length<=90000):cL prog 53 [zA n,zA d] S tk k=some (resQ n d,S,tk,k):=by
 refine opP func53 ntmps53 (hp3:=rfl) ?_;have hz:dig 0=[]:=B9;have hnz:decide ((0:Int)<0)=false:=aO
 by_cases di:d=0
 ·subst di;rw [Q9];have iz:(((0:Nat):Int) == 0)=true:=rfl;simp (maxSteps:=10^6)+contextual(disch:=try exact dqd)only[ev1,simprocAttr,Cb,Bg,Cc,results53,zA,bigA,qA,ratA,digA,hz,hnz,iz]
 have i0:(((dig d.natAbs).length:Int) == 0)=false:=by
  have:dig d.natAbs≠[]:=fun e=>Za5y
  exact Ya1m
 have nj:0<n.natAbs.gcd d.natAbs:=Iy _ aA;have hD:=fun S tk k=>Xk S tk k n.natAbs d.natAbs hn hd;have hgl:(dig (n.natAbs.gcd d.natAbs)).length<=90000:=by
  exact Ya17
 have wh:=fun S tk k=>Yr S tk k n.natAbs (n.natAbs.gcd d.natAbs) hn hgl nj;have tx:=fun S tk k=>Yr S tk k d.natAbs (n.natAbs.gcd d.natAbs) hd hgl nj;have hla:=Rx n d;have hlb:(lowD n d).natAbs=d.natAbs / n.natAbs.gcd d.natAbs:=rfl;have hs:=Ahc n d di;have hp:=Ke (n.natAbs / n.natAbs.gcd d.natAbs);have hdn:decide (lowD n d<0)=false:=by
  have:¬ lowD n d<0:=by unfold lowD; omega
  simp [this]
 unfold resQ resN resD;simp only [digA] at hD wh tx;by_cases h1:(dig (n.natAbs / n.natAbs.gcd d.natAbs)).length<=200
 ·have d1:decide (((dig (n.natAbs / n.natAbs.gcd d.natAbs)).length:Int) > 200)=false:=aD
  by_cases h2:(dig (d.natAbs / n.natAbs.gcd d.natAbs)).length<=200
  ·have d2:decide (((dig (d.natAbs / n.natAbs.gcd d.natAbs)).length:Int) > 200)=false:=aD
   have hf:E3 n d=true:=dC
   rw [hf];simp only [if_true,qA,hla,hlb,<- hs,hdn];have wd:(decide (n<0) != decide (d<0))=!(decide (n<0) == decide (d<0)):=rfl;rw [wd];cases d3:decide (n<0) == decide (d<0) with
   | true=>simp (maxSteps:=10^6)+contextual(disch:=try exact dqd)only[ev1,simprocAttr,Cb,Bg,Cc,results53,zA,bigA,ratA,digA,hD,wh,tx,i0,d1,d2,d3,wd,hp,Oj,Oe,F0,Fq]
   | false=>simp (maxSteps:=10^6)+contextual(disch:=try exact dqd)only[ev1,simprocAttr,Cb,Bg,Cc,results53,zA,bigA,ratA,digA,hD,wh,tx,i0,d1,d2,d3,wd,hp,Oj,Oe,F0,Fq]
  ·have d2:decide (((dig (d.natAbs / n.natAbs.gcd d.natAbs)).length:Int) > 200)=true:=aD
   have hf:E3 n d=false:=dC
   rw [hf];simp only [Ef,if_false];simp (maxSteps:=10^6)+contextual(disch:=try exact dqd)only[ev1,simprocAttr,Cb,Bg,Cc,results53,zA,bigA,qA,ratA,digA,hz,hD,wh,tx,i0,d1,d2]
 ·have d1:decide (((dig (n.natAbs / n.natAbs.gcd d.natAbs)).length:Int) > 200)=true:=aD
  have hf:E3 n d=false:=dC
  rw [hf];simp only [Ef,if_false];simp (maxSteps:=10^6)+contextual(disch:=try exact dqd)only[ev1,simprocAttr,Cb,Bg,Cc,results53,zA,bigA,qA,ratA,digA,hz,hD,wh,tx,i0,d1]
theorem Asg (p1:Bool) (l1:List Int) (q1:Bool) (r1:List Int) (p2:Bool) (l2:List Int) (q2:Bool) (r2:List Int) (h1:l1.length<=1000000) (h2:r1.length<=1000000) (h3:l2.length<=1000000) (h4:r2.length<=1000000) :
  cL prog 96 [ratA p1 l1 q1 r1,ratA p2 l2 q2 r2] S tk k=some (resQ (nQ p1 l1 q1 r1*dQ p2 l2 q2 r2+nQ p2 l2 q2 r2*dQ p1 l1 q1 r1) (dQ p1 l1 q1 r1*dQ p2 l2 q2 r2),S,tk,k):=by
 have hA:=fun S tk k=>H2 S tk k p1 l1 q1 r1 h1 h2;have hB:=fun S tk k=>H2 S tk k p2 l2 q2 r2 h3 h4;have gA:=Gj p1 l1 q1 r1;have gB:=Gj p2 l2 q2 r2;generalize nQ p1 l1 q1 r1=a at *;generalize dQ p1 l1 q1 r1=b at *;generalize nQ p2 l2 q2 r2=c at *;generalize dQ p2 l2 q2 r2=d at *;refine opP func96 ntmps96 (hp3:=rfl) ?_;have l1:=gA.ln;have l2:=gA.ld;have l3:=gB.ln;have l4:=gB.ld;have a7:=fun S tk k=>Es S tk k a d aA aA;have ai:=fun S tk k=>Es S tk k b d aA aA;have ba:=fun S tk k=>Es S tk k c b aA aA;have m1:=Ea l1 l4;have m2:=Ea l2 l4;have m3:=Ea l3 l2;have hP:=fun S tk k=>Aa0 S tk k (a*d) (c*b) aA aA;have m4:=Ag7 (x:=a*d) (y:=c*b) (a:=45000) aA aA;have hR:=fun S tk k=>Ri S tk k (a*d+c*b) (b*d) aA aA;simp only [zA,bigA,digA] at a7 ai ba hP hR;simp only [resQ,qA,ratA,digA] at hA hB hR ⊢;simp (maxSteps:=10^6)+contextual(disch:=try exact dqd)only[ev1,simprocAttr,Cb,Bg,Cc,results96,ratA,digA,hA,hB,a7,ai,ba,hP,hR]
theorem Aj4 (p1:Bool) (l1:List Int) (q1:Bool) (r1:List Int) (p2:Bool) (l2:List Int) (q2:Bool) (r2:List Int) (h1:l1.length<=1000000) (h2:r1.length<=1000000) (h3:l2.length<=1000000) (h4:r2.length<=1000000) :
  cL prog 94 [ratA p1 l1 q1 r1,ratA p2 l2 q2 r2] S tk k=some (resQ (nQ p1 l1 q1 r1*nQ p2 l2 q2 r2) (dQ p1 l1 q1 r1*dQ p2 l2 q2 r2),S,tk,k):=by
 have hA:=fun S tk k=>H2 S tk k p1 l1 q1 r1 h1 h2;have hB:=fun S tk k=>H2 S tk k p2 l2 q2 r2 h3 h4;have gA:=Gj p1 l1 q1 r1;have gB:=Gj p2 l2 q2 r2;generalize nQ p1 l1 q1 r1=a at *;generalize dQ p1 l1 q1 r1=b at *;generalize nQ p2 l2 q2 r2=c at *;generalize dQ p2 l2 q2 r2=d at *;refine opP func94 ntmps94 (hp3:=rfl) ?_;have l1:=gA.ln;have l2:=gA.ld;have l3:=gB.ln;have l4:=gB.ld;have a7:=fun S tk k=>Es S tk k a c aA aA;have ai:=fun S tk k=>Es S tk k b d aA aA;have m1:=Ea l1 l3;have m2:=Ea l2 l4;have hR:=fun S tk k=>Ri S tk k (a*c) (b*d) aA aA;simp only [zA,bigA,digA] at a7 ai hR;simp only [resQ,qA,ratA,digA] at hA hB hR ⊢;simp (maxSteps:=10^6)+contextual(disch:=try exact dqd)only[ev1,simprocAttr,Cb,Bg,Cc,results94,ratA,digA,hA,hB,a7,ai,hR]
theorem Adz (p1:Bool) (l1:List Int) (q1:Bool) (r1:List Int) (p2:Bool) (l2:List Int) (q2:Bool) (r2:List Int) (h1:l1.length<=1000000) (h2:r1.length<=1000000) (h3:l2.length<=1000000) (h4:r2.length<=1000000) :
  cL prog 118 [ratA p1 l1 q1 r1,ratA p2 l2 q2 r2] S tk k=some (resQ (nQ p1 l1 q1 r1*dQ p2 l2 q2 r2) (dQ p1 l1 q1 r1*nQ p2 l2 q2 r2),S,tk,k):=by
 have hA:=fun S tk k=>H2 S tk k p1 l1 q1 r1 h1 h2;have hB:=fun S tk k=>H2 S tk k p2 l2 q2 r2 h3 h4;have gA:=Gj p1 l1 q1 r1;have gB:=Gj p2 l2 q2 r2;generalize nQ p1 l1 q1 r1=a at *;generalize dQ p1 l1 q1 r1=b at *;generalize nQ p2 l2 q2 r2=c at *;generalize dQ p2 l2 q2 r2=d at *;refine opP func118 ntmps118 (hp3:=rfl) ?_;have l1:=gA.ln;have l2:=gA.ld;have l3:=gB.ln;have l4:=gB.ld;have a7:=fun S tk k=>Es S tk k a d aA aA;have ai:=fun S tk k=>Es S tk k b c aA aA;have m1:=Ea l1 l4;have m2:=Ea l2 l3;have hR:=fun S tk k=>Ri S tk k (a*d) (b*c) aA aA;simp only [zA,bigA,digA] at a7 ai hR;simp only [resQ,qA,ratA,digA] at hA hB hR ⊢;simp (maxSteps:=10^6)+contextual(disch:=try exact dqd)only[ev1,simprocAttr,Cb,Bg,Cc,results118,ratA,digA,hA,hB,a7,ai,hR]
theorem Te (p:Bool) (l:List Int) (q:Bool) (r:List Int) (hl:l.length<=1000000) (hr:r.length<=1000000):cL prog 45 [ratA p l q r] S tk k=some (qA (-nQ p l q r) (dQ p l q r),S,tk,k):=by
 have hA:=fun S tk k=>H2 S tk k p l q r hl hr;generalize nQ p l q r=a at *;generalize dQ p l q r=b at *;refine opP func45 ntmps45 (hp3:=rfl) ?_;have hz:=zneg a;have hp:=Ke a.natAbs;simp only [qA,ratA,digA] at hA ⊢;rw [<- hz,Int.natAbs_neg];by_cases ha:a<0
 ·have d1:decide (a<0)=true:=gH
  rw [d1] at hA ⊢;simp (maxSteps:=10^6)+contextual(disch:=try exact dqd)only[ev1,simprocAttr,Cb,Bg,Cc,results45,hA,hp,Oj,Fq]
 ·have d1:decide (a<0)=false:=gH
  rw [d1] at hA ⊢;simp (maxSteps:=10^6)+contextual(disch:=try exact dqd)only[ev1,simprocAttr,Cb,Bg,Cc,results45,hA,hp,Oe,F0]
theorem Aj5 (p1:Bool) (l1:List Int) (q1:Bool) (r1:List Int) (p2:Bool) (l2:List Int) (q2:Bool) (r2:List Int) (h1:l1.length<=1000000) (h2:r1.length<=1000000) (h3:l2.length<=1000000) (h4:r2.length<=1000000) :
  cL prog 68 [ratA p1 l1 q1 r1,ratA p2 l2 q2 r2] S tk k=some (resQ (nQ p1 l1 q1 r1*dQ p2 l2 q2 r2+-nQ p2 l2 q2 r2*dQ p1 l1 q1 r1) (dQ p1 l1 q1 r1*dQ p2 l2 q2 r2),S,tk,k):=by
 have hO:=fun S tk k=>Te S tk k p2 l2 q2 r2 h3 h4;have gB:=(Gj p2 l2 q2 r2).neg;generalize nQ p2 l2 q2 r2=c at *;generalize dQ p2 l2 q2 r2=d at *;have hA:=fun S tk k=>Asg S tk k p1 l1 q1 r1 (decide (-c<0)) (dig (-c).natAbs) (decide (d<0)) (dig d.natAbs) h1 h2 (by have:=gB.ln; omega) (by have:=gB.ld; omega);rw [gB.nQ,gB.dQ] at hA;refine opP func68 ntmps68 (hp3:=rfl) ?_;simp only [resQ,qA,ratA,digA] at hO hA ⊢;simp (maxSteps:=10^6)+contextual(disch:=try exact dqd)only[ev1,simprocAttr,Cb,Bg,Cc,results68,hO,hA]
theorem Ady (p1:Bool) (l1:List Int) (q1:Bool) (r1:List Int) (p2:Bool) (l2:List Int) (q2:Bool) (r2:List Int) (h1:l1.length<=1000000) (h2:r1.length<=1000000) (h3:l2.length<=1000000) (h4:r2.length<=1000000) :
  cL prog 18 [ratA p1 l1 q1 r1,ratA p2 l2 q2 r2] S tk k=some (.int (cmpZ (nQ p1 l1 q1 r1*dQ p2 l2 q2 r2) (nQ p2 l2 q2 r2*dQ p1 l1 q1 r1)),S,tk,k):=by
 have hA:=fun S tk k=>H2 S tk k p1 l1 q1 r1 h1 h2;have hB:=fun S tk k=>Te S tk k p2 l2 q2 r2 h3 h4;have gA:=Gj p1 l1 q1 r1;have gB:=(Gj p2 l2 q2 r2).neg;generalize nQ p1 l1 q1 r1=a at *;generalize dQ p1 l1 q1 r1=b at *;generalize nQ p2 l2 q2 r2=c at *;generalize dQ p2 l2 q2 r2=d at *;refine opP func18 ntmps18 (hp3:=rfl) ?_;have l1:=gA.ln;have l2:=gA.ld;have l3:=gB.ln;have l4:=gB.ld;have a7:=fun S tk k=>Es S tk k a d aA aA;have ai:=fun S tk k=>Es S tk k (-c) b aA aA;have m1:=Ea l1 l4;have m2:=Ea l3 l2;have hP:=fun S tk k=>Aa0 S tk k (a*d) (-c*b) aA aA;have e:a*d+-c*b=a*d - c*b:=by rw [iD]; omega
 rw [e] at hP;simp only [zA,bigA,digA] at a7 ai hP;simp only [qA,ratA,digA] at hA hB;generalize a*d=x at *;generalize c*b=y at *;by_cases g1:x=y
 ·have d0:dig (x - y).natAbs=[]:=by rw [g1]; simp [B9]
  have d1:(((dig (x - y).natAbs).length:Int) == 0)=true:=by rw [d0]; rfl
  rw [Zd g1];exact Ya06
 ·have d1:(((dig (x - y).natAbs).length:Int) == 0)=false:=by
   have:dig (x - y).natAbs≠[]:=fun e=>Za5y
   exact Ya1m
  by_cases g2:x<y
  ·have d2:decide (x - y<0)=true:=aD
   rw [d2] at hP;rw [Aeg g2];exact Ya06
  ·have d2:decide (x - y<0)=false:=aD
   rw [d2] at hP;rw [Aef aA];exact Ya06
end
end
section
open Go
theorem T7 {n d:Int} (hd:d≠0):(lowN n d).natAbs.gcd (lowD n d).natAbs=1:=by
 rw [Rx,show (lowD n d).natAbs=d.natAbs / n.natAbs.gcd d.natAbs from rfl];have hg:0<n.natAbs.gcd d.natAbs:=Iy _ aA;rw [Nat.gcd_div (Nat.gcd_dvd_left _ _) (Nat.gcd_dvd_right _ _)];exact Nat.div_self hg
theorem Qu {n d:Int} (hd:d≠0):0<lowD n d:=by
 have hg:0<n.natAbs.gcd d.natAbs:=Iy _ aA;have h2:n.natAbs.gcd d.natAbs<=d.natAbs:=jZ _ aA;have:=Nat.div_pos h2 hg;unfold lowD; omega
theorem Mn {n d:Int} (hd:d≠0):lowN n d*d=n*lowD n d:=by
 have hg:0<n.natAbs.gcd d.natAbs:=Iy _ aA;obtain ⟨g,hgd⟩:∃ g:Nat,g=n.natAbs.gcd d.natAbs:=⟨_,rfl⟩;have h1:(g:Int) ∣ n:=by rw [hgd]; exact Int.ofNat_dvd_left.2 (Nat.gcd_dvd_left _ _)
 have h2:(g:Int) ∣ d:=by rw [hgd]; exact Int.ofNat_dvd_left.2 (Nat.gcd_dvd_right _ _)
 obtain ⟨a,ha⟩:=h1;obtain ⟨b,hb⟩:=h2;have nj:(g:Int)≠0:=aA
 have hN:lowN n d=if d<0 then -a else a:=by
  unfold lowN;rw [<- hgd];split
  ·rw [ha,Int.neg_tdiv,Int.mul_tdiv_cancel_left _ nj]
  ·rw [ha,Int.mul_tdiv_cancel_left _ nj]
 have hD:lowD n d=if d<0 then -b else b:=by
  unfold lowD;rw [<- hgd];have:d.natAbs=g*b.natAbs:=by rw [hb,Ii]; simp
  rw [this,Nat.mul_div_cancel_left _ aA];have hs:d<0↔b<0:=by
   rw [hb];constructor
   ·intro h;rcases Int.lt_or_le b 0 with h'|h'
    ·exact h'
    ·have:=jI (show (0:Int)<=g by omega) h'; omega
   ·intro h;exact Int.mul_neg_of_pos_of_neg aA h
  split <;> omega
 rw [hN,hD];generalize (g:Int)=G at *;subst ha hb;split
 ·rw [iD,Int.mul_neg,<- Ij,Hk a G]
 ·rw [<- Ij,Hk a G]
theorem Qw {a b c d:Int} (hb:0<b) (hd:0<d) (h1:a.natAbs.gcd b.natAbs=1) (h2:c.natAbs.gcd d.natAbs=1) (h:a*d=c*b):a=c/\b=d:=by
 have e:=congrArg Int.natAbs h;rw [Ii,Ii] at e;have k1:d.natAbs ∣ b.natAbs:=(Nat.Coprime.dvd_of_dvd_mul_left (Nat.Coprime.symm h2) ⟨a.natAbs,by rw [<- e,Ox]⟩);have k2:b.natAbs ∣ d.natAbs:=(Nat.Coprime.dvd_of_dvd_mul_left (Nat.Coprime.symm h1) ⟨c.natAbs,by rw [e,Ox]⟩);have yi:b.natAbs=d.natAbs:=Nat.dvd_antisymm k2 k1;have a5x:b=d:=aA
 subst a5x;exact ⟨Int.eq_of_mul_eq_mul_right aA h,rfl⟩
theorem H1.low {n d:Int} (h:H1 n d):lowN n d=n/\lowD n d=d:=by
 have hd:=h.pos;exact Qw (Qu aA) hd (T7 aA) h.cop (Mn aA)
theorem Avs {n d n' d':Int} (hd:d≠0) (ip:d'≠0) (h:n*d'=n'*d):lowN n d=lowN n' d'/\lowD n d=lowD n' d':=by
 refine Qw (Qu hd) (Qu ip) (T7 hd) (T7 ip) ?_;have h1:=Mn (n:=n) hd;have h2:=Mn (n:=n') ip;have h3:(lowN n d*lowD n' d')*(d*d')=(lowN n' d'*lowD n d)*(d*d'):=by
  generalize lowN n d=a at *;generalize lowD n d=b at *;generalize lowN n' d'=a' at *;generalize lowD n' d'=b' at *;have e1:(a*b')*(d*d')=(n*d')*(b*b'):=by
   have:(a*b')*(d*d')=(a*d)*(b'*d'):=aL
   rw [this,h1]; grind
  have e2:(a'*b)*(d*d')=(n'*d)*(b*b'):=by
   have:(a'*b)*(d*d')=(a'*d')*(b*d):=aL
   rw [this,h2]; grind
  rw [e1,e2,h]
 exact Int.eq_of_mul_eq_mul_right (Il hd ip) h3
theorem Alw {n d n' d':Int} (hd:d≠0) (ip:d'≠0) (h:n*d'=n'*d):E3 n d=E3 n' d'/\resN n d=resN n' d'/\resD n d=resD n' d':=by
 obtain ⟨h1,h2⟩:=Avs hd ip h;have hf:E3 n d=E3 n' d':=by
  unfold E3;rw [h1,h2];simp [hd,ip]
 exact ⟨hf,by unfold resN; rw [hf,h1],by unfold resD; rw [hf,h2]⟩
theorem Aeq {n d:Int} (h:E3 n d=true):d≠0:=by
 unfold E3 at h;simp at h;exact h.1.1
theorem Ahu {n d:Int} (h:E3 n d=true):H1 (resN n d) (resD n d):=by
 have hd:=Aeq h;unfold resN resD;rw [h];simp only [if_true];refine ⟨Qu hd,T7 hd,?_,?_⟩
 ·unfold E3 okZ at h; simp at h; exact h.1.2
 ·unfold E3 okZ at h; simp at h; exact h.2
theorem Ann {n d:Int} (h:E3 n d=true):resN n d*d=n*resD n d:=by
 have hd:=Aeq h;unfold resN resD;rw [h];exact Mn hd
theorem H1.fits {n d:Int} (h:H1 n d):E3 n d=true/\resN n d=n/\resD n d=d:=by
 obtain ⟨h1,h2⟩:=h.low;have hf:E3 n d=true:=by
  unfold E3 okZ;rw [h1,h2];have:=h.pos;simp only [Ci,Ob,decide_eq_false_iff_not,decide_eq_true_eq];have h8:=h.ln;have h9:=h.ld;exact ⟨⟨aA,aA⟩,aA⟩
 exact ⟨hf,by unfold resN; rw [hf,h1]; rfl,by unfold resD; rw [hf,h2]; rfl⟩
theorem Ar6 {n d a b:Int} (hd:d≠0) (g:H1 a b) (h:n*b=a*d):E3 n d=true/\resN n d=a/\resD n d=b:=by
 obtain ⟨h1,h2,h3⟩:=Alw hd (by have:=g.pos; omega) h;obtain ⟨k1,k2,k3⟩:=g.fits;exact ⟨h1.trans k1,h2.trans k2,h3.trans k3⟩
theorem Aqu {n d:Int} (h:E3 n d=false):resN n d=0/\resD n d=0:=by
 unfold resN resD; rw [h]; exact ⟨rfl,rfl⟩
abbrev Q:=Int × Int
structure Fld where
 whole:Int->Q × Bool
 minus:Q->Q->Q × Bool
 times:Q->Q->Q × Bool
 over:Q->Q->Q × Bool
 ok:Q->Prop
 rat:Q->Q
 stop:Bool
def sgn (a:Q):Int:=if a.1<0 then -1 else if 0<a.1 then 1 else 0
def bigF (n d:Int):Bool:=decide (n<=-2147483648) || decide (n >= 2147483648) || decide (d >= 2147483648) || decide (d=0)
def qn (n d:Int):Q × Bool:=if bigF (lowN n d) (lowD n d)=true then ((0,1),true) else ((lowN n d,lowD n d),false)
def okS (a:Q):Prop:=-2147483648<a.1/\a.1<2147483648/\0<a.2/\a.2<2147483648
def QQ.qF:Fld where
 whole n:=if n<=-2147483648\/n >= 2147483648 then ((0,1),true) else ((n,1),false)
 minus a b:=qn (a.1*b.2 - b.1*a.2) (a.2*b.2)
 times a b:=qn (a.1*b.1) (a.2*b.2)
 over a b:=if b.1=0 then ((0,1),true) else qn (a.1*b.2) (a.2*b.1)
 ok:=okS
 rat a:=(resN a.1 a.2,resD a.1 a.2)
 stop:=true
def wn (n d:Int):Q × Bool:=((resN n d,resD n d),!E3 n d)
def qz (a:Q):Q:=if a.2=0 then (0,1) else a
def okW (a:Q):Prop:=H1 a.1 a.2\/a=(0,0)
def WW.qF:Fld where
 whole n:=((n,1),false)
 minus a b:=wn ((qz a).1*(qz b).2+-(qz b).1*(qz a).2) ((qz a).2*(qz b).2)
 times a b:=wn ((qz a).1*(qz b).1) ((qz a).2*(qz b).2)
 over a b:=wn ((qz a).1*(qz b).2) ((qz a).2*(qz b).1)
 ok:=okW
 rat a:=a
 stop:=false
theorem Ack:H1 0 1:=⟨aO,rfl,aV,aV⟩
theorem Av6 {n d:Int} (h:H1 n d):qz (n,d)=(n,d):=by
 have:=h.pos;unfold qz; rw [if_neg bP]
theorem qz_n {a:Q} (h:okW a):nQ (decide (a.1<0)) (dig a.1.natAbs) (decide (a.2<0)) (dig a.2.natAbs)=(qz a).1/\dQ (decide (a.1<0)) (dig a.1.natAbs) (decide (a.2<0)) (dig a.2.natAbs)=(qz a).2:=by
 rcases h with h|rfl
 ·obtain ⟨n,d⟩:=a;rw [Av6 h];exact ⟨h.nQ,h.dQ⟩
 ·refine ⟨?_,?_⟩ <;> decide +kernel
theorem Gx {a:Q} (h:okW a):(dig a.1.natAbs).length<=200/\(dig a.2.natAbs).length<=200:=by
 rcases h with h|rfl
 ·exact ⟨h.ln,h.ld⟩
 ·refine ⟨?_,?_⟩ <;> decide +kernel
theorem Awc {a:Q} (h:okW a):sgn (qz a)=sgn a:=by
 rcases h with h|rfl
 ·obtain ⟨n,d⟩:=a;rw [Av6 h]
 ·rfl
theorem Aub (n d:Int):okW (wn n d).1:=by
 unfold wn;cases h:E3 n d with
 | true=>exact .inl (Ahu h)
 | false=>obtain ⟨h1,h2⟩:=Aqu h; rw [h1,h2]; exact .inr rfl
theorem Ai7 (n d:Int):0<=lowD n d:=Sy _
theorem Aqo (n d:Int):okS (qn n d).1:=by
 unfold qn bigF;split
 ·exact ⟨aO,aO,aO,aO⟩
 ·rename_i h;simp only [Kn,decide_eq_true_eq] at h;have:=Ai7 n d;refine ⟨?_,?_,?_,?_⟩ <;> simp only <;> omega
structure Fld.Keeps (F:Fld):Prop where
 whole:∀ n,i64 n->F.ok (F.whole n).1
 minus:∀ a b,F.ok a->F.ok b->F.ok (F.minus a b).1
 times:∀ a b,F.ok a->F.ok b->F.ok (F.times a b).1
 over:∀ a b,F.ok a->F.ok b->F.ok (F.over a b).1
theorem QQ.Dj:QQ.qF.Keeps:=by
 refine ⟨fun n _=>?_,fun a b _ _=>Aqo _ _,fun a b _ _=>Aqo _ _,fun a b _ _=>?_⟩
 ·simp only [QQ.qF];split
  ·exact ⟨aO,aO,aO,aO⟩
  ·refine ⟨?_,?_,?_,?_⟩ <;> simp only <;> omega
 ·simp only [QQ.qF];split
  ·exact ⟨aO,aO,aO,aO⟩
  ·exact Aqo _ _
theorem WW.Dj:WW.qF.Keeps:=by
 refine ⟨fun n hn=>.inl ?_,fun a b _ _=>Aub _ _,fun a b _ _=>Aub _ _,fun a b _ _=>Aub _ _⟩;simp only [WW.qF];have h1:(dig (1:Int).natAbs).length<=200:=aV
 refine ⟨by simp,by simp,?_,h1⟩;refine Bp.2 ?_;unfold i64 at hn;exact Ya2x
end
section
open Go Tryz
set_option maxHeartbeats 4000000
set_option maxRecDepth 100000
def frA (a:Q):AV:=.agg [.int a.1,.int a.2]
def QQ.flS (S:List Ent) (iq eq:Nat) (b:Bool):List Ent:=bif b then put S iq ⟨eq,[.prim (.bool true)]⟩ else S
theorem Gy {S:List Ent} {iq eq:Nat} : QQ.flS S iq eq false=S:=rfl
theorem Bf {S:List Ent} {iq eq:Nat} : QQ.flS S iq eq true=put S iq ⟨eq,[.prim (.bool true)]⟩:=rfl
theorem QQ.Bm {S:List Ent} {iq eq:Nat} {b:Bool} : (QQ.flS S iq eq b).length=S.length:=by
 cases b
 ·rfl
 ·exact Ai
theorem A2 {S:List Ent} {iq eq j:Nat} {b:Bool} (h:j≠iq):nth (QQ.flS S iq eq b) j=nth S j:=by
 cases b
 ·rfl
 ·exact Ab h.symm
theorem Aw {S:List Ent} {i e:Nat} {cs:List AV} (h:entAt S i e=some cs):i<S.length:=by
 obtain ⟨x,h1,-⟩:=D4 h;exact Br h1
theorem Bw {α:Type} {l:List α} {i:Nat} {v:α} (h:i<l.length):nth (put l i v) i=some v:=by
 induction l generalizing i with
 | nil=>simp at h
 | cons x l ih=>cases i with
  | zero=>rfl
  | succ i=>exact ih aM
theorem Ae {S:List Ent} {i e:Nat} {cs:List AV} (h:i<S.length):entAt (put S i ⟨e,cs⟩) i e=some cs:=by
 simp [entAt,Bw h]
theorem Ah {S:List Ent} {i j e:Nat} {x:Ent} (h:i≠j):entAt (put S i x) j e=entAt S j e:=by
 simp [entAt,Ab h]
theorem Aa {S S':List Ent} {j e:Nat} (h:nth S' j=nth S j):entAt S' j e=entAt S j e:=by simp [entAt,h]
theorem Alo {S:List Ent} {iq eq:Nat} {b c:Bool} (h:entAt S iq eq=some [.prim (.bool b)]):entAt (QQ.flS S iq eq c) iq eq=some [.prim (.bool (b || c))]:=by
 cases c
 ·rw [Gy,Fk]; exact h
 ·rw [Bf,Ae (Aw h),Bool.or_true]
theorem Avj {S:List Ent} {iq eq:Nat} {b c:Bool} (h:entAt S iq eq=some [.prim (.bool b)]):gO S (QQ.flS S iq eq c)=some ():=by
 refine Aly ⟨QQ.Bm,fun j=>?_⟩;by_cases e:j=iq
 ·subst e;obtain ⟨x,h1,h2,h3⟩:=D4 h;obtain ⟨ep,cs⟩:=x;simp only at h2 h3;subst h2 h3;cases c
  ·exact .inl rfl
  ·exact .inr ⟨_,b,true,h1,Bw (Br h1)⟩
 ·exact .inl (A2 e)
theorem Ad {S:List Ent} {L:List Ent} {i e:Nat} {cs:List AV} (h:entAt S i e=some cs):entAt (S++L) i e=some cs:=by
 have hl:=Aw h;unfold entAt at h ⊢;rw [Ag] at h ⊢;rw [C3 hl]; exact h
theorem B4 {S L:List Ent} {i:Nat} {x:Ent} (h:i<S.length):put (S++L) i x=put S i x++L:=by
 induction S generalizing i with
 | nil=>simp at h
 | cons y S ih=>cases i with
  | zero=>rfl
  | succ i=>simp only [Cn,put,ih aM]
theorem Zq {S L:List Ent} {iq eq:Nat} {b:Bool} (h:iq<S.length):QQ.flS (S++L) iq eq b=QQ.flS S iq eq b++L:=by
 cases b
 ·rfl
 ·exact B4 h
theorem Jn {S L:List Ent} : (S++L).take S.length=S:=by simp
theorem Am {S:List Ent} {n k:Nat} {cs:List AV} (h:S.length=n):entAt (S++[⟨k,cs⟩]) n k=some cs:=by subst h; exact Az
theorem B7 {S:List Ent} {n:Nat} {e e':Ent} (h:S.length=n):put (S++[e]) n e'=S++[e']:=by subst h; exact put_new
theorem Lf {S L:List Ent} {n:Nat} (h:S.length=n):(S++L).take n=S:=by subst h; exact Jn
theorem Bb (x:Int) (g:Nat):(x.tdiv g).natAbs<=x.natAbs:=by
 rw [kK]; exact Sn _ _
theorem Aqn (n d:Int) (hn:n.natAbs<9223372036854775808) (hd:d.natAbs<9223372036854775808) (g:Nat) (hg:g=n.natAbs.gcd d.natAbs) (N:Int) (D:Nat) (hN:N=if d<0 then -n else n) (hD:D=d.natAbs) :
  lowN n d=(if 1<g then N.tdiv (g:Int) else N)/\lowD n d=(if 1<g then (D:Int).tdiv (g:Int) else (D:Int)):=by
 subst hN hD;have hNn:(if d<0 then -n else n).natAbs=n.natAbs:=by split <;> omega
 unfold lowN lowD;rw [<- hg];by_cases h1:1<g
 ·rw [if_pos h1,if_pos h1];exact ⟨rfl,by rw [Fe aA]; rfl⟩
 ·rw [if_neg h1,if_neg h1];rcases Im 0 g with h0|h0
  ·have:g=1:=aA
   subst this;exact ⟨by simp,by simp⟩
  ·have h00:g=0:=aA
   rw [h00] at hg;have ha:=Nat.gcd_eq_zero_iff.1 hg.symm;have gn:n=0:=aA
   have di:d=0:=aA
   subst gn; subst di;exact ⟨by simp,by simp⟩
section
variable (S:List Ent) (tk:List Nat) (k iq eq:Nat) (b:Bool)
theorem Mu (n d:Int) (hn:n.natAbs<9223372036854775808) (hd:d.natAbs<9223372036854775808) (hq:entAt S iq eq=some [.prim (.bool b)]):cL prog 164 [.ref iq eq 0,.int n,.int d] S tk k=some (frA (qn n d).1,QQ.flS S iq eq (qn n d).2,tk,k+1):=by
 have b7:=Aw hq;have df:entAt (S++[⟨k,[.prim (.int .i64 0),.prim (.int .i64 0)]⟩]) iq eq=some [.prim (.bool b)]:=Ad hq;refine opS func164 ntmps164 ?_;obtain ⟨N,hN⟩:∃ N,N=if d<0 then -n else n:=⟨_,rfl⟩
 obtain ⟨D,hD⟩:∃ D:Nat,D=d.natAbs:=⟨_,rfl⟩;obtain ⟨g,hg⟩:∃ g:Nat,g=n.natAbs.gcd d.natAbs:=⟨_,rfl⟩;have hNn:N.natAbs=n.natAbs:=by subst hN; split <;> omega
 obtain ⟨f1,f2⟩:=Aqn n d hn hd g hg N D hN hD;obtain ⟨r,hr⟩:∃ r,r=qn n d:=⟨_,rfl⟩;have ae:=hr;unfold qn bigF at ae;rw [f1,f2] at ae;rw [<- hr];have dt:(put S iq ⟨eq,[.prim (.bool true)]⟩).length=S.length:=Ai;have hE:=fun cs=>Am (k:=k) (cs:=cs) dt;have hP:=fun e e'=>B7 (e:=e) (e':=e') dt;have hT:=fun L=>Lf (L:=L) dt;have hA:=fun L x=>B4 (L:=L) (x:=x) b7;by_cases hneg:d<0
 ·have d1:decide (d<0)=true:=aX
  have w1':Ca.wrap (0 - n)=N:=by rw [hN,if_pos hneg,Ac aC]; omega
  have w2':Ca.wrap (0 - d)=((D:Nat):Int):=by rw [hD,Ac aC]; omega
  by_cases gn:N<0
  ·have d2:decide (N<0)=true:=cN
   have w3':Ca.wrap (0 - N)=((N.natAbs:Nat):Int):=aS
   simp (maxSteps:=10^6)+contextual(disch:=try exact dqd)only[evs0,simprocAttr,Cb,Bg,Cc,results164,d1,w1',w2',d2,w3'];refine Ai5 (P:=prog) (fun x st=>st.T.length=56/\(x.1.gcd x.2=g)/\(x.1<9223372036854775808)/\(x.2<9223372036854775808)/\getT st.T 0=.ref iq eq 0/\getT st.T 1=.int N/\getT st.T 2=.int (D:Nat)/\getT st.T 6=.ref S.length k 0/\getT st.T 7=.int (x.1:Nat)/\getT st.T 8=.int (x.2:Nat)/\st.S=S++[⟨k,[.int 0,.int 0]⟩]/\st.tk=tk/\st.n=k+1) (fun x=>x.2) (fun x=>(frA r.1,QQ.flS S iq eq r.2,tk,k+1)) (N.natAbs,D) ?_ ?_;case refine_2=>exact ⟨rfl,cO,aA,aA,rfl,rfl,rfl,rfl,rfl,rfl,rfl,rfl,rfl⟩
   rintro ⟨x,y⟩ ⟨T,S',tk',n'⟩ ⟨hl,i5,hx,hy,e0,e1,e2,e6,e7,e8,eS,eT,eN⟩ IH;simp only at i5 hx hy e0 e1 e2 e6 e7 e8 eS eT eN;subst eS eT eN;obtain ⟨g,hg,hT⟩:=Au hl;rw [hg] at e0 e1 e2 e6 e7 e8;subst hT;clear hg hl;by_cases h0:y=0
   ·subst h0;have c1:(((0:Nat):Int) != 0)=false:=rfl;rw [Og] at i5;subst i5;by_cases h1:1<x
    ·rw [if_pos h1,if_pos h1] at ae;have c2:decide ((x:Int) > 1)=true:=aD
     have hz:¬ ((x:Int)=0):=aA
     have v1:=Bb N x;have v2:=Bb (D:Int) x;have w5:Ca.wrap (N.tdiv (x:Int))=N.tdiv (x:Int):=Ac aC;have w6:Ca.wrap ((D:Int).tdiv (x:Int))=(D:Int).tdiv (x:Int):=Ac aC;by_cases b1:N.tdiv (x:Int)<=-2147483648
     ·have k1:decide (N.tdiv (x:Int)<=-2147483648)=true:=aY
      exact Yah
     have k1:decide (N.tdiv (x:Int)<=-2147483648)=false:=aY
     by_cases b2:N.tdiv (x:Int) >= 2147483648
     ·have k2:decide (N.tdiv (x:Int) >= 2147483648)=true:=aZ
      exact Yag
     have k2:decide (N.tdiv (x:Int) >= 2147483648)=false:=aZ
     exact Ya1
    ·rw [if_neg h1,if_neg h1] at ae;have c2:decide ((x:Int) > 1)=false:=aD
     by_cases b1:N<=-2147483648
     ·have k1:decide (N<=-2147483648)=true:=aY
      exact Yaj
     have k1:decide (N<=-2147483648)=false:=aY
     by_cases b2:N >= 2147483648
     ·have k2:decide (N >= 2147483648)=true:=aZ
      exact Yai
     have k2:decide (N >= 2147483648)=false:=aZ
     exact Ya2
   ·exact Ya8
  ·have d2:decide (N<0)=false:=cN
   simp (maxSteps:=10^6)+contextual(disch:=try exact dqd)only[evs0,simprocAttr,Cb,Bg,Cc,results164,d1,w1',w2',d2];obtain ⟨M,hM⟩:∃ M:Nat,N=M:=⟨N.natAbs,aA⟩;exact Ya0
 ·have d1:decide (d<0)=false:=aX
  have a2x:n=N:=by rw [hN,if_neg hneg]
  have hDd:d=(D:Int):=aA
  subst a2x;subst hDd;by_cases gn:n<0
  ·have d2:decide (n<0)=true:=cN
   have w3':Ca.wrap (0 - n)=((n.natAbs:Nat):Int):=aS
   simp (maxSteps:=10^6)+contextual(disch:=try exact dqd)only[evs0,simprocAttr,Cb,Bg,Cc,results164,d1,d2,w3'];refine Ai5 (P:=prog) (fun x st=>st.T.length=56/\(x.1.gcd x.2=g)/\(x.1<9223372036854775808)/\(x.2<9223372036854775808)/\getT st.T 0=.ref iq eq 0/\getT st.T 1=.int n/\getT st.T 2=.int (D:Nat)/\getT st.T 6=.ref S.length k 0/\getT st.T 7=.int (x.1:Nat)/\getT st.T 8=.int (x.2:Nat)/\st.S=S++[⟨k,[.int 0,.int 0]⟩]/\st.tk=tk/\st.n=k+1) (fun x=>x.2) (fun x=>(frA r.1,QQ.flS S iq eq r.2,tk,k+1)) (n.natAbs,D) ?_ ?_;case refine_2=>exact ⟨rfl,cO,aA,aA,rfl,rfl,rfl,rfl,rfl,rfl,rfl,rfl,rfl⟩
   rintro ⟨x,y⟩ ⟨T,S',tk',n'⟩ ⟨hl,i5,hx,hy,e0,e1,e2,e6,e7,e8,eS,eT,eN⟩ IH;simp only at i5 hx hy e0 e1 e2 e6 e7 e8 eS eT eN;subst eS eT eN;obtain ⟨g,hg,hT⟩:=Au hl;rw [hg] at e0 e1 e2 e6 e7 e8;subst hT;clear hg hl;by_cases h0:y=0
   ·subst h0;have c1:(((0:Nat):Int) != 0)=false:=rfl;rw [Og] at i5;subst i5;by_cases h1:1<x
    ·rw [if_pos h1,if_pos h1] at ae;have c2:decide ((x:Int) > 1)=true:=aD
     have hz:¬ ((x:Int)=0):=aA
     have v1:=Bb n x;have v2:=Bb (D:Int) x;have w5:Ca.wrap (n.tdiv (x:Int))=n.tdiv (x:Int):=Ac aC;have w6:Ca.wrap ((D:Int).tdiv (x:Int))=(D:Int).tdiv (x:Int):=Ac aC;by_cases b1:n.tdiv (x:Int)<=-2147483648
     ·have k1:decide (n.tdiv (x:Int)<=-2147483648)=true:=aY
      exact Yah
     have k1:decide (n.tdiv (x:Int)<=-2147483648)=false:=aY
     by_cases b2:n.tdiv (x:Int) >= 2147483648
     ·have k2:decide (n.tdiv (x:Int) >= 2147483648)=true:=aZ
      exact Yag
     have k2:decide (n.tdiv (x:Int) >= 2147483648)=false:=aZ
     exact Ya1
    ·rw [if_neg h1,if_neg h1] at ae;have c2:decide ((x:Int) > 1)=false:=aD
     by_cases b1:n<=-2147483648
     ·have k1:decide (n<=-2147483648)=true:=aY
      exact Yaj
     have k1:decide (n<=-2147483648)=false:=aY
     by_cases b2:n >= 2147483648
     ·have k2:decide (n >= 2147483648)=true:=aZ
      exact Yai
     have k2:decide (n >= 2147483648)=false:=aZ
     exact Ya2
   ·exact Ya8
  ·have d2:decide (n<0)=false:=cN
   simp (maxSteps:=10^6)+contextual(disch:=try exact dqd)only[evs0,simprocAttr,Cb,Bg,Cc,results164,d1,d2];obtain ⟨M,hM⟩:∃ M:Nat,n=M:=⟨n.natAbs,aA⟩;exact Ya0
end
end
section
open Go Tryz
theorem Ph {a b:Int} (ha:a.natAbs<2147483648) (hb:b.natAbs<2147483648):(a*b).natAbs<4611686018427387904:=by
 rw [Ii];exact Nat.mul_lt_mul'' ha hb
theorem Pg {a:Q} (h:okS a):a.1.natAbs<2147483648/\a.2.natAbs<2147483648:=by
 obtain ⟨h1,h2,h3,h4⟩:=h;omega
theorem new3a {S:List Ent} {e2 e3:Ent} {k:Nat} {c:List AV} : entAt (S++[⟨k,c⟩]++[e2]++[e3]) S.length k=some c:=Ad (Ad Az)
theorem new3b {S:List Ent} {e1 e3:Ent} {k:Nat} {c:List AV} : entAt (S++[e1]++[⟨k,c⟩]++[e3]) (S++[e1]).length k=some c:=Ad Az
theorem new3c {S S':List Ent} {e1 e2 x1 x2:Ent} {k:Nat} {c:List AV} (h:S'.length=S.length):entAt (S'++[e1]++[e2]++[⟨k,c⟩]) (S++[x1]++[x2]).length k=some c:=Am bO
theorem put3c {S S':List Ent} {e1 e2 x1 x2 e e':Ent} (h:S'.length=S.length):put (S'++[e1]++[e2]++[e]) (S++[x1]++[x2]).length e'=S'++[e1]++[e2]++[e']:=B7 bO
theorem take3 {S S':List Ent} {e1 e2 e3:Ent} (h:S'.length=S.length):(S'++[e1]++[e2]++[e3]).take S.length=S':=by rw [<- h]; simp
theorem flS3 {S:List Ent} {e1 e2 e3:Ent} {iq eq:Nat} {b:Bool} (h:iq<S.length):QQ.flS (S++[e1]++[e2]++[e3]) iq eq b=QQ.flS S iq eq b++[e1]++[e2]++[e3]:=by
 rw [Zq aD,Zq aD,Zq h]
theorem new1a {S:List Ent} {k:Nat} {c:List AV} : entAt (S++[⟨k,c⟩]) S.length k=some c:=Az
section
variable (S:List Ent) (tk:List Nat) (k iq eq:Nat) (fl:Bool)
theorem Afe (a b:Q) (ha:okS a) (hb:okS b) (hq:entAt S iq eq=some [.prim (.bool fl)]):cL prog 158 [.ref iq eq 0,frA a,frA b] S tk k=some (frA (QQ.qF.minus a b).1,QQ.flS S iq eq (QQ.qF.minus a b).2,tk,k+4):=by
 obtain ⟨vg,rg⟩:=Pg ha;obtain ⟨hb1,hb2⟩:=Pg hb;obtain ⟨an,ad⟩:=a;obtain ⟨bn,bd⟩:=b;simp only at vg rg hb1 hb2;have p1:=Ph vg hb2;have p2:=Ph hb1 rg;have p3:=Ph rg hb2;have p4:=Ph vg hb1;have p5:=Ph rg hb1;have v1:Ca.wrap (an*bd)=an*bd:=Ac aC;have v2:Ca.wrap (bn*ad)=bn*ad:=Ac aC;have v3:Ca.wrap (ad*bd)=ad*bd:=Ac aC;have v4:Ca.wrap (an*bn)=an*bn:=Ac aC;have v5:Ca.wrap (ad*bn)=ad*bn:=Ac aC;have v6:Ca.wrap (an*bd - bn*ad)=an*bd - bn*ad:=Ac aC;have b7:=Aw hq;have hq3:entAt (S++[⟨k,[.int an,.int ad]⟩]++[⟨k+1,[.int bn,.int bd]⟩]++[⟨k+1+1,[.int 0,.int 0]⟩]) iq eq=some [.prim (.bool fl)]:=Ad (Ad (Ad hq));refine opS func158 ntmps158 ?_;have hN:=Mu _ tk (k+1+1+1) iq eq fl (an*bd - bn*ad) (ad*bd) aA aA hq3;rw [flS3 b7] at hN;have dt:=QQ.Bm (S:=S) (iq:=iq) (eq:=eq) (b:=(qn (an*bd - bn*ad) (ad*bd)).2);simp only [frA] at hN;simp (maxSteps:=10^6)+contextual(disch:=try exact dqd)only[evs0,simprocAttr,Cb,Bg,Cc,results158,frA,v1,v2,v3,v6,hN,new3a,new3b,new3c dt,put3c dt,take3 dt,QQ.qF]
theorem Aff (a b:Q) (ha:okS a) (hb:okS b) (hq:entAt S iq eq=some [.prim (.bool fl)]):cL prog 162 [.ref iq eq 0,frA a,frA b] S tk k=some (frA (QQ.qF.times a b).1,QQ.flS S iq eq (QQ.qF.times a b).2,tk,k+4):=by
 obtain ⟨vg,rg⟩:=Pg ha;obtain ⟨hb1,hb2⟩:=Pg hb;obtain ⟨an,ad⟩:=a;obtain ⟨bn,bd⟩:=b;simp only at vg rg hb1 hb2;have p1:=Ph vg hb2;have p2:=Ph hb1 rg;have p3:=Ph rg hb2;have p4:=Ph vg hb1;have p5:=Ph rg hb1;have v1:Ca.wrap (an*bd)=an*bd:=Ac aC;have v2:Ca.wrap (bn*ad)=bn*ad:=Ac aC;have v3:Ca.wrap (ad*bd)=ad*bd:=Ac aC;have v4:Ca.wrap (an*bn)=an*bn:=Ac aC;have v5:Ca.wrap (ad*bn)=ad*bn:=Ac aC;have v6:Ca.wrap (an*bd - bn*ad)=an*bd - bn*ad:=Ac aC;have b7:=Aw hq;have hq3:entAt (S++[⟨k,[.int an,.int ad]⟩]++[⟨k+1,[.int bn,.int bd]⟩]++[⟨k+1+1,[.int 0,.int 0]⟩]) iq eq=some [.prim (.bool fl)]:=Ad (Ad (Ad hq));refine opS func162 ntmps162 ?_;have hN:=Mu _ tk (k+1+1+1) iq eq fl (an*bn) (ad*bd) aA aA hq3;rw [flS3 b7] at hN;have dt:=QQ.Bm (S:=S) (iq:=iq) (eq:=eq) (b:=(qn (an*bn) (ad*bd)).2);simp only [frA] at hN;simp (maxSteps:=10^6)+contextual(disch:=try exact dqd)only[evs0,simprocAttr,Cb,Bg,Cc,results162,frA,v3,v4,hN,new3a,new3b,new3c dt,put3c dt,take3 dt,QQ.qF]
def QQ.Acm (b:Q):Nat:=if b.1=0 then 3 else 4
theorem Ajf (a b:Q) (ha:okS a) (hb:okS b) (hq:entAt S iq eq=some [.prim (.bool fl)]):cL prog 159 [.ref iq eq 0,frA a,frA b] S tk k=some (frA (QQ.qF.over a b).1,QQ.flS S iq eq (QQ.qF.over a b).2,tk,k+QQ.Acm b):=by
 obtain ⟨vg,rg⟩:=Pg ha;obtain ⟨hb1,hb2⟩:=Pg hb;obtain ⟨an,ad⟩:=a;obtain ⟨bn,bd⟩:=b;simp only at vg rg hb1 hb2;have p1:=Ph vg hb2;have p2:=Ph hb1 rg;have p3:=Ph rg hb2;have p4:=Ph vg hb1;have p5:=Ph rg hb1;have v1:Ca.wrap (an*bd)=an*bd:=Ac aC;have v2:Ca.wrap (bn*ad)=bn*ad:=Ac aC;have v3:Ca.wrap (ad*bd)=ad*bd:=Ac aC;have v4:Ca.wrap (an*bn)=an*bn:=Ac aC;have v5:Ca.wrap (ad*bn)=ad*bn:=Ac aC;have v6:Ca.wrap (an*bd - bn*ad)=an*bd - bn*ad:=Ac aC;have b7:=Aw hq;have hq3:entAt (S++[⟨k,[.int an,.int ad]⟩]++[⟨k+1,[.int bn,.int bd]⟩]++[⟨k+1+1,[.int 0,.int 0]⟩]) iq eq=some [.prim (.bool fl)]:=Ad (Ad (Ad hq));refine opS func159 ntmps159 ?_;by_cases hz:bn=0
 ·have d1:(bn == 0)=true:=cK
  have ky:QQ.qF.over (an,ad) (bn,bd)=((0,1),true):=by simp [QQ.qF,hz]
  have hko:QQ.Acm (bn,bd)=3:=by simp [QQ.Acm,hz]
  have de:∀ e1 e2 e3,put (S++[e1]++[e2]++[e3]) iq ⟨eq,[.prim (.bool true)]⟩=QQ.flS S iq eq true++[e1]++[e2]++[e3]:=fun e1 e2 e3=>flS3 (b:=true) b7;have dt:=QQ.Bm (S:=S) (iq:=iq) (eq:=eq) (b:=true);rw [ky,hko];simp (maxSteps:=10^6)+contextual(disch:=try exact dqd)only[evs0,simprocAttr,Cb,Bg,Cc,results159,frA,d1,hq3,de,new3a,new3b,new3c dt,put3c dt,take3 dt]
 ·have d1:(bn == 0)=false:=cK
  have ky:QQ.qF.over (an,ad) (bn,bd)=qn (an*bd) (ad*bn):=by simp [QQ.qF,hz]
  have hko:QQ.Acm (bn,bd)=4:=by simp [QQ.Acm,hz]
  have hN:=Mu _ tk (k+1+1+1) iq eq fl (an*bd) (ad*bn) aA aA hq3;rw [flS3 b7] at hN;have dt:=QQ.Bm (S:=S) (iq:=iq) (eq:=eq) (b:=(qn (an*bd) (ad*bn)).2);simp only [frA] at hN;rw [ky,hko];simp (maxSteps:=10^6)+contextual(disch:=try exact dqd)only[evs0,simprocAttr,Cb,Bg,Cc,results159,frA,d1,v1,v5,hN,new3a,new3b,new3c dt,put3c dt,take3 dt]
theorem Afg (n:Int) (hq:entAt S iq eq=some [.prim (.bool fl)]):cL prog 163 [.ref iq eq 0,.int n] S tk k=some (frA (QQ.qF.whole n).1,QQ.flS S iq eq (QQ.qF.whole n).2,tk,k+1):=by
 have b7:=Aw hq;have df:entAt (S++[⟨k,[.int 0,.int 0]⟩]) iq eq=some [.prim (.bool fl)]:=Ad hq;have dt:(put S iq ⟨eq,[.prim (.bool true)]⟩).length=S.length:=Ai;have hE:=fun cs=>Am (k:=k) (cs:=cs) dt;have hP:=fun e e'=>B7 (e:=e) (e':=e') dt;have hT:=fun L=>Lf (L:=L) dt;have hA:=fun L x=>B4 (L:=L) (x:=x) b7;refine opS func163 ntmps163 ?_;by_cases b1:n<=-2147483648
 ·have k1:decide (n<=-2147483648)=true:=aY
  have hr:QQ.qF.whole n=((0,1),true):=by simp [QQ.qF,b1]
  rw [hr];simp (maxSteps:=10^6)+contextual(disch:=try exact dqd)only[evs0,simprocAttr,Cb,Bg,Cc,results163,frA,Bf,k1,df,hE,hP,hT,hA]
 have k1:decide (n<=-2147483648)=false:=aY
 by_cases b2:n >= 2147483648
 ·have k2:decide (n >= 2147483648)=true:=aZ
  have hr:QQ.qF.whole n=((0,1),true):=by simp only [QQ.qF]; rw [if_pos (.inr b2)]
  rw [hr];simp (maxSteps:=10^6)+contextual(disch:=try exact dqd)only[evs0,simprocAttr,Cb,Bg,Cc,results163,frA,Bf,k1,k2,df,hE,hP,hT,hA]
 have k2:decide (n >= 2147483648)=false:=aZ
 have hr:QQ.qF.whole n=((n,1),false):=by simp only [QQ.qF]; rw [if_neg aA]
 rw [hr];simp (maxSteps:=10^6)+contextual(disch:=try exact dqd)only[evs0,simprocAttr,Cb,Bg,Cc,results163,frA,Gy,k1,k2,df]
theorem Ajg (a:Q) (hq:entAt S iq eq=some [.prim (.bool fl)]):cL prog 161 [.ref iq eq 0,frA a] S tk k=some (.int (sgn a),S,tk,k+1):=by
 obtain ⟨an,ad⟩:=a;refine opS func161 ntmps161 ?_;by_cases h1:an<0
 ·have k1:decide (an<0)=true:=aU
  have hr:sgn (an,ad)=-1:=by simp [sgn,h1]
  rw [hr];simp (maxSteps:=10^6)+contextual(disch:=try exact dqd)only[evs0,simprocAttr,Cb,Bg,Cc,results161,frA,k1,new1a,Jn]
 have k1:decide (an<0)=false:=aU
 by_cases h2:an > 0
 ·have k2:decide (an > 0)=true:=cA
  have hr:sgn (an,ad)=1:=by simp only [sgn]; rw [if_neg h1,if_pos h2]
  exact Ya1a
 have k2:decide (an > 0)=false:=cA
 have hr:sgn (an,ad)=0:=by simp only [sgn]; rw [if_neg h1,if_neg h2]
 exact Ya1a
theorem Afd (hq:entAt S iq eq=some [.prim (.bool fl)]):cL prog 157 [.ref iq eq 0] S tk k=some (.bool (!fl),S,tk,k):=by
 refine opS func157 ntmps157 ?_;simp (maxSteps:=10^6)+contextual(disch:=try exact dqd)only[evs0,simprocAttr,Cb,Bg,Cc,results157,hq]
theorem Of_z (n d:Int) (hn:(dig n.natAbs).length<=200) (hd:(dig d.natAbs).length<=200):cL prog 165 [zA n,zA d] S tk k=some (resQ n d,S,tk,k):=by
 have h:=Av7 S tk k (decide (n<0)) (dig n.natAbs) (decide (d<0)) (dig d.natAbs) aA aA;unfold ofQ at h;rw [V_of _ hn,V_of _ hd] at h;by_cases h0:D8 (decide (n<0)) (dig n.natAbs)=true
 ·rw [if_pos h0] at h; exact h
 ·exact absurd (Uh n hn) h0
theorem digS {n:Int} (h:n.natAbs<2147483648):(dig n.natAbs).length<=200:=by
 refine Bp.2 ?_;exact Ya2x
theorem Xb (a:Q) (ha:okS a) (_:entAt S iq eq=some [.prim (.bool fl)]):cL prog 160 [.ref iq eq 0,frA a] S tk k=some (qA (resN a.1 a.2) (resD a.1 a.2),S,tk,k+3):=by
 obtain ⟨vg,rg⟩:=Pg ha;obtain ⟨an,ad⟩:=a;simp only at vg rg;have h1:=fun S tk k=>U0 S tk k an aC;have h2:=fun S tk k=>U0 S tk k ad aC;have h3:=fun S tk k=>Of_z S tk k an ad (digS vg) (digS rg);simp only [zA,bigA,digA] at h1 h2 h3;simp only [resQ,qA,ratA,digA] at h3 ⊢;refine opS func160 ntmps160 ?_;simp (maxSteps:=10^6)+contextual(disch:=try exact dqd)only[evs1,simprocAttr,Cb,Bg,Cc,results160,frA,digA,h1,h2,h3,new1a,Jn];rw [take3 rfl]
end
def raA (a:Q):AV:=qA a.1 a.2
section
variable (S:List Ent) (tk:List Nat) (k:Nat)
theorem Ajl (a b:Q) (ha:okW a) (hb:okW b):cL prog 184 [.agg [],raA a,raA b] S tk k=some (raA (WW.qF.minus a b).1,S,tk,k):=by
 obtain ⟨l1,l2⟩:=Gx ha;obtain ⟨l3,l4⟩:=Gx hb;obtain ⟨g1,g2⟩:=qz_n ha;obtain ⟨g3,g4⟩:=qz_n hb;obtain ⟨an,ad⟩:=a;obtain ⟨bn,bd⟩:=b;simp only at l1 l2 l3 l4 g1 g2 g3 g4;have hJ:=fun S tk k=>Aqr S tk k (decide (an<0)) (dig an.natAbs) (decide (ad<0)) (dig ad.natAbs) (decide (bn<0)) (dig bn.natAbs) (decide (bd<0)) (dig bd.natAbs) aA aA aA aA;rw [g1,g2,g3,g4] at hJ;refine opP func184 ntmps184 (hp3:=rfl) ?_;simp only [resQ,raA,qA,ratA,digA] at hJ ⊢;simp (maxSteps:=10^6)+contextual(disch:=try exact dqd)only[ev1,simprocAttr,Cb,Bg,Cc,results184,raA,qA,ratA,digA,WW.qF,wn,hJ];exact ⟨rfl,rfl⟩
theorem Ajm (a b:Q) (ha:okW a) (hb:okW b):cL prog 188 [.agg [],raA a,raA b] S tk k=some (raA (WW.qF.times a b).1,S,tk,k):=by
 obtain ⟨l1,l2⟩:=Gx ha;obtain ⟨l3,l4⟩:=Gx hb;obtain ⟨g1,g2⟩:=qz_n ha;obtain ⟨g3,g4⟩:=qz_n hb;obtain ⟨an,ad⟩:=a;obtain ⟨bn,bd⟩:=b;simp only at l1 l2 l3 l4 g1 g2 g3 g4;have hJ:=fun S tk k=>Atu S tk k (decide (an<0)) (dig an.natAbs) (decide (ad<0)) (dig ad.natAbs) (decide (bn<0)) (dig bn.natAbs) (decide (bd<0)) (dig bd.natAbs) aA aA aA aA;rw [g1,g2,g3,g4] at hJ;refine opP func188 ntmps188 (hp3:=rfl) ?_;simp only [resQ,raA,qA,ratA,digA] at hJ ⊢;simp (maxSteps:=10^6)+contextual(disch:=try exact dqd)only[ev1,simprocAttr,Cb,Bg,Cc,results188,raA,qA,ratA,digA,WW.qF,wn,hJ];exact ⟨rfl,rfl⟩
theorem An0 (a b:Q) (ha:okW a) (hb:okW b):cL prog 185 [.agg [],raA a,raA b] S tk k=some (raA (WW.qF.over a b).1,S,tk,k):=by
 obtain ⟨l1,l2⟩:=Gx ha;obtain ⟨l3,l4⟩:=Gx hb;obtain ⟨g1,g2⟩:=qz_n ha;obtain ⟨g3,g4⟩:=qz_n hb;obtain ⟨an,ad⟩:=a;obtain ⟨bn,bd⟩:=b;simp only at l1 l2 l3 l4 g1 g2 g3 g4;have hJ:=fun S tk k=>Att S tk k (decide (an<0)) (dig an.natAbs) (decide (ad<0)) (dig ad.natAbs) (decide (bn<0)) (dig bn.natAbs) (decide (bd<0)) (dig bd.natAbs) aA aA aA aA;rw [g1,g2,g3,g4] at hJ;refine opP func185 ntmps185 (hp3:=rfl) ?_;simp only [resQ,raA,qA,ratA,digA] at hJ ⊢;simp (maxSteps:=10^6)+contextual(disch:=try exact dqd)only[ev1,simprocAttr,Cb,Bg,Cc,results185,raA,qA,ratA,digA,WW.qF,wn,hJ];exact ⟨rfl,rfl⟩
theorem Ajn (n:Int) (hn:i64 n):cL prog 189 [.agg [],.int n] S tk k=some (raA (WW.qF.whole n).1,S,tk,k):=by
 have hJ:=fun S tk k=>Pk S tk k n hn;refine opP func189 ntmps189 (hp3:=rfl) ?_;simp only [raA,qA,ratA,digA,WW.qF] at hJ ⊢;simp (maxSteps:=10^6)+contextual(disch:=try exact dqd)only[ev1,simprocAttr,Cb,Bg,Cc,results189,raA,qA,ratA,digA,WW.qF,hJ];first|rfl|exact ⟨rfl,rfl⟩
theorem An1 (a:Q) (ha:okW a):cL prog 187 [.agg [],raA a] S tk k=some (.int (sgn a),S,tk,k):=by
 have hI:=fun S tk k=>Pk S tk k 0 aC;obtain ⟨l1,l2⟩:=Gx ha;obtain ⟨g1,g2⟩:=qz_n ha;have mg:=Awc ha;obtain ⟨an,ad⟩:=a;simp only at l1 l2 g1 g2;have g0:H1 0 1:=Ack;have hJ:=fun S tk k=>Ats S tk k (decide (an<0)) (dig an.natAbs) (decide (ad<0)) (dig ad.natAbs) (decide ((0:Int)<0)) (dig (0:Int).natAbs) (decide ((1:Int)<0)) (dig (1:Int).natAbs) aA aA aV aV;rw [g1,g2,g0.nQ,g0.dQ] at hJ;have hs:cmpZ ((qz (an,ad)).1*1) (0*(qz (an,ad)).2)=sgn (an,ad):=by rw [<- mg]; simp only [cmpZ,sgn,Int.mul_one,Int.zero_mul]
 rw [hs] at hJ;refine opP func187 ntmps187 (hp3:=rfl) ?_;have z1:decide ((0:Int)<0)=false:=rfl;have z2:decide ((1:Int)<0)=false:=rfl;have z3:(0:Int).natAbs=0:=rfl;have z4:(1:Int).natAbs=1:=rfl;simp only [raA,qA,ratA,digA,z1,z2,z3,z4] at hI hJ ⊢;simp (maxSteps:=10^6)+contextual(disch:=try exact dqd)only[ev1,simprocAttr,Cb,Bg,Cc,results187,raA,qA,ratA,digA,hI,hJ]
theorem Aaj (a:Q):cL prog 186 [.agg [],raA a] S tk k=some (raA a,S,tk,k):=by
 refine opP func186 ntmps186 (hp3:=rfl) ?_;simp (maxSteps:=10^6)+contextual(disch:=try exact dqd)only[ev1,simprocAttr,Cb,Bg,Cc,results186,raA,qA,ratA,digA]
theorem Ajk:cL prog 183 [.agg []] S tk k=some (.bool true,S,tk,k):=by
 refine opP func183 ntmps183 (hp3:=rfl) ?_;simp (maxSteps:=10^6)+contextual(disch:=try exact dqd)only[ev1,simprocAttr,Cb,Bg,Cc,results183]
end
end
section
open Go
section
variable {P:Program} {fn:Func} {k:List Kont}
abbrev Rs:=AV × List Ent × List Nat × Nat
def Gd (fin:Option (AV × St)->Option Rs) (Φ:Rs->Prop) (x:Option (AV × St)):Prop:=∃ r,fin x=some r/\Φ r
theorem Ard {m:Nat} {Φ:Rs->Prop} {t:Bool} {a b:Option (AV × St)} {tg:Tag (a,b)} : Gd (finS m) Φ (BR (some t) a b tg)↔(t=true->Gd (finS m) Φ a)/\(t=false->Gd (finS m) Φ b):=by
 cases t <;> simp [BR,br]
theorem Arc {Φ:Rs->Prop} {t:Bool} {a b:Option (AV × St)} {tg:Tag (a,b)} : Gd finM Φ (BR (some t) a b tg)↔(t=true->Gd finM Φ a)/\(t=false->Gd finM Φ b):=by
 cases t <;> simp [BR,br]
theorem Afu {m:Nat} {Φ:Rs->Prop} {r:AV} {s:St} : Gd (finS m) Φ (some (r,s))↔Φ (fz3 m s.S r,s.S.take m,s.tk,s.n):=by simp [Gd,finS]
theorem Aft {Φ:Rs->Prop} {r:AV} {s:St} : Gd finM Φ (some (r,s))↔Φ (r,s.S,s.tk,s.n):=by simp [Gd,finM]
theorem Dp [Globs] [Ext P] {ι:Type} {c:Code} {fin:Option (AV × St)->Option Rs} {Φ:Rs->Prop} {tg:Tag (lC c,k)} (I:ι->St->Prop) (μ:ι->Nat) (x:ι)
  (h:∀ x st,I x st->(∀ y st',μ y<μ x->I y st'->Gd fin Φ (KX P fn (.loop c) st' k .mk))->Gd fin Φ (KX P fn c st (.loop c st.S.length :: k) .mk)) {st:St} (h0:I x st):Gd fin Φ (KX P fn (.loop c) st k tg):=by
 have key:∀ n x st,μ x=n->I x st->Gd fin Φ (KX P fn (.loop c) st k .mk):=by
  intro n;induction n using Sk with
  | _ n ih =>
   intro x st hn hI;show Gd fin Φ (RK P fn (.loop c) st k);rw [Yz];exact h x st hI fun y st' hlt hy=>ih (μ y) (hn ▸ hlt) y st' rfl hy
 exact key _ x st rfl h0
theorem Abo [Globs] [Ext P] {f : FuncId} {c : Code} (hf : P.funcs[f]? = some fn) (hx : (Ext.on P f || Ext.mv P f) = false) (hb : fn.body = some c) (bg : (fn.name == "runtime.NumGoroutine") = false) {args : List AV} {nt : Nat} (nk : fn.ntmps = nt) (hp : (args.map w2).all pure2 = false) {S : List Ent} {tk : List Nat} {n : Nat} {Φ : Rs → Prop}
  (h:Gd (finS S.length) Φ (RK P fn c ⟨args++bots (nt - args.length),S,tk,n⟩ [])):∃ r,cL P f args S tk n=some r/\Φ r:=by
 obtain ⟨r,h1,h2⟩:=h;exact ⟨r,U5 hf hx hb bg nk hp h1,h2⟩
theorem Apu [Globs] [Ext P] {f : FuncId} {c : Code} (hf : P.funcs[f]? = some fn) (hx : (!Ext.on P f && Ext.mv P f) = true) (hb : fn.body = some c) (bg : (fn.name == "runtime.NumGoroutine") = false) {args : List AV} {nt : Nat} (nk : fn.ntmps = nt) {S : List Ent} {tk : List Nat} {n : Nat} {Φ : Rs → Prop}
  (h:Gd finM Φ (RK P fn c ⟨args++bots (nt - args.length),S,tk,n⟩ [])):∃ r,cL P f args S tk n=some r/\Φ r:=by
 obtain ⟨r,h1,h2⟩:=h;exact ⟨r,As1 hf hx hb bg nk h1,h2⟩
end
section
variable {P:Program} {fn:Func} [Globs] [Ext P] {f:FuncId} {c:Code} {args:List AV} {nt:Nat} {S:List Ent} {tk:List Nat} {n:Nat} {Φ:Rs->Prop}
theorem opG (hf : P.funcs[f]? = some fn) (nk : fn.ntmps = nt) (h : Gd (finS S.length) Φ (KX P fn c ⟨args ++ bots (nt - args.length), S, tk, n⟩ [] .mk)) (hx : (Ext.on P f || Ext.mv P f) = false := by exact rfl) (hb : fn.body = some c := by exact rfl) (bg : (fn.name == "runtime.NumGoroutine") = false := by decide +kernel) (hp : (args.map w2).all pure2 = false := by exact rfl) : ∃ r, cL P f args S tk n = some r ∧ Φ r := Abo hf hx hb bg nk hp h
theorem opM (hf : P.funcs[f]? = some fn) (nk : fn.ntmps = nt) (h : Gd finM Φ (KX P fn c ⟨args ++ bots (nt - args.length), S, tk, n⟩ [] .mk)) (hx : (!Ext.on P f && Ext.mv P f) = true := by exact rfl) (hb : fn.body = some c := by exact rfl) (bg : (fn.name == "runtime.NumGoroutine") = false := by decide +kernel) : ∃ r, cL P f args S tk n = some r ∧ Φ r := Apu hf hx hb bg nk h
end
set_option linter.defProp false in
def evg1:=Bu @Ard <| Bu @Arc <| Bu @Afu <| Bu @Aft evs1
/- rows of cells -/
theorem Ld {sz:Nat} : ∀ {e r:List AV},e.length=sz->takeN sz (e++r)=some e:=by
 induction sz with
 | zero=>intro e r h; rw [C4.1 h]; rfl
 | succ n ih =>
  intro e r h;cases e with
  | nil=>simp at h
  | cons x e=>simp only [Cn,takeN,ih aM,C8]
theorem Uc {e':List AV} : ∀ {e r:List AV},e.length=e'.length->over (e++r) 0 e'=some (e'++r):=by
 induction e' with
 | nil=>intro e r h; rw [C4.1 h]; simp [over]
 | cons x e' ih =>
  intro e r h;cases e with
  | nil=>simp at h
  | cons y e=>simp only [Cn,over,ih aM,C8]
section
variable {sz:Nat}
theorem Acc:∀ {es:List (List AV)} {k:Nat} {e:List AV},(∀ e ∈ es,e.length=sz)->nth es k=some e->takeN sz (es.flatten.drop (k*sz))=some e
 | x :: es,0,e,h,hk=>by
  simp only [nth,A8] at hk;subst hk;simp only [Ov,Fg,F3];exact Ld (h _ (by simp))
 | x :: es,k+1,e,h,hk=>by
  have hx:=h x (by simp);have e1:(k+1)*sz=x.length+k*sz:=by rw [hx,Oa,Nat.add_comm]
  rw [e1,F3,iI];simp only [Nat.add_sub_cancel_left];rw [Cy aA,Cq];exact Acc (fun e he=>h e (by simp [he])) hk
 | [],_,_,_,hk=>by simp [nth] at hk
theorem Qb:∀ {es:List (List AV)} {k:Nat} {e e':List AV},(∀ e ∈ es,e.length=sz)->nth es k=some e->e'.length=sz->over es.flatten (k*sz) e'=some (put es k e').flatten
 | x :: es,0,e,e',h,_,he=>by
  simp only [Ov,F3,put];exact Uc (by rw [h x (by simp),he])
 | x :: es,k+1,e,e',h,hk,he=>by
  have hx:=h x (by simp);have e1:(k+1)*sz=x.length+k*sz:=by rw [hx,Oa,Nat.add_comm]
  have ih:=Qb (es:=es) (k:=k) (fun e he=>h e (by simp [he])) hk he;have gen:∀ (p cs:List AV) (o:Nat) (r:List AV),over cs o e'=some r->over (p++cs) (p.length+o) e'=some (p++r):=by
   intro p;induction p with
   | nil=>intro cs o r h; simpa using h
   | cons y p ih =>
    intro cs o r h;have:=ih cs o r h;have e2:(y :: p).length+o=(p.length+o)+1:=aD
    rw [e2];cases e' <;> simp only [Cn,over,this,C8]
  rw [e1,F3];simp only [put,F3];exact gen x _ _ _ ih
 | [],_,_,_,_,hk,_=>by simp [nth] at hk
end
def flat (ce:Q->List AV) (l:List Q):List AV:=(l.map ce).flatten
section
variable {ce:Q->List AV} {sz:Nat} (hce:∀ q,(ce q).length=sz)
include hce
theorem Ap {l:List Q} {k:Nat} {q:Q} (h:nth l k=some q):takeN sz ((flat ce l).drop (k*sz))=some (ce q):=by
 unfold flat;refine Acc (fun e he=>?_) ?_
 ·obtain ⟨x,-,rfl⟩:=Ft.1 he;exact hce x
 ·rw [Ag] at h ⊢; rw [Cw,h]; rfl
theorem A5 {l:List Q} {k:Nat} {q':Q} (h:k<l.length):over (flat ce l) (k*sz) (ce q')=some (flat ce (put l k q')):=by
 unfold flat;rw [<- Pj];refine Qb (e:=ce l[k]) (fun e he=>?_) ?_ (hce q')
 ·obtain ⟨x,-,rfl⟩:=Ft.1 he;exact hce x
 ·rw [Ag,Cw,Iw h]; rfl
theorem Vn {l:List Q} : (flat ce l).length=l.length*sz:=by
 unfold flat;induction l with
 | nil=>simp
 | cons x l ih=>rw [Ct,F3,Cm,ih,hce x,Ch,Oa,Nat.add_comm]
end
abbrev QQ.rcvQ (i e:Nat):AV:=.ref i e 0
abbrev WW.rcvQ (_ _:Nat):AV:=.agg []
abbrev QQ.zeroQ:List AV:=[.int 0,.int 0]
abbrev WW.zeroQ:List AV:=[.prim (.bool false),.frz [] .nilc,.prim (.bool false),.frz [] .nilc]
end
section
open Go Tryz
def ceQ (a:Q):List AV:=[.int a.1,.int a.2]
def ceW (a:Q):List AV:=[.prim (.bool (decide (a.1<0))),digA (dig a.1.natAbs),.prim (.bool (decide (a.2<0))),digA (dig a.2.natAbs)]
theorem Ay (a:Q):(ceQ a).length=2:=rfl
theorem Al (a:Q):(ceW a).length=4:=rfl
theorem Bs (a:Q):(ceQ a).all leafOk=true:=rfl
theorem An (a:Q):(ceW a).all leafOk=true:=rfl
theorem Arr (m:Nat) (S:List Ent) (a:Q):(ceQ a).map (fz1 m S)=ceQ a:=rfl
theorem Agf (m:Nat) (S:List Ent) (a:Q):(ceW a).map (fz1 m S)=ceW a:=rfl
theorem ovQ (a:Q):over [.int 0,.int 0] 0 (ceQ a)=some (ceQ a):=rfl
theorem QQ.ovQ2 (a b:Q):over (ceQ b) 0 (ceQ a)=some (ceQ a):=rfl
theorem ovW (a:Q):over [.prim (.bool false),.frz [] .nilc,.prim (.bool false),.frz [] .nilc] 0 (ceW a)=some (ceW a):=rfl
theorem WW.ovQ2 (a b:Q):over (ceW b) 0 (ceW a)=some (ceW a):=rfl
theorem tkQ (a:Q):takeN 2 (ceQ a)=some (ceQ a):=rfl
theorem tkW (a:Q):takeN 4 (ceW a)=some (ceW a):=rfl
theorem puQ (a:Q):((ceQ a).map w1).all pure1=true:=rfl
theorem puW (a:Q):((ceW a).map w1).all pure1=true:=rfl
theorem Bt (a:Q):(ceW a).all pure1=true:=rfl
theorem Bx (a:Q):(ceW a).map w1=ceW a:=rfl
def QQ.FAq (S:List Ent) (iq eq:Nat) (b:Bool):Prop:=entAt S iq eq=some [.prim (.bool b)]
structure WW.FAq (_:List Ent) (_ _:Nat) (_:Bool):Prop where
def WW.flS (S:List Ent) (_ _:Nat) (_:Bool):List Ent:=S
theorem WW.Ek {S:List Ent} {iq eq:Nat} {b c:Bool} (_:WW.FAq S iq eq b):gO S (WW.flS S iq eq c)=some ():=gO_refl
theorem QQ.Ek {S:List Ent} {iq eq:Nat} {b c:Bool} (h:QQ.FAq S iq eq b):gO S (QQ.flS S iq eq c)=some ():=Avj h
theorem QQ.FAq.fS {S:List Ent} {iq eq:Nat} {b c:Bool} (h:QQ.FAq S iq eq b):QQ.FAq (QQ.flS S iq eq c) iq eq (b || c):=Alo h
theorem WW.FAq.fS {S:List Ent} {iq eq:Nat} {b c:Bool} (_:WW.FAq S iq eq b):WW.FAq (WW.flS S iq eq c) iq eq (b || c):=⟨⟩
theorem QQ.FAq.app {S L:List Ent} {iq eq:Nat} {b:Bool} (h:QQ.FAq S iq eq b):QQ.FAq (S++L) iq eq b:=Ad h
theorem WW.FAq.app {S L:List Ent} {iq eq:Nat} {b:Bool} (_:WW.FAq S iq eq b):WW.FAq (S++L) iq eq b:=⟨⟩
theorem QQ.Hj {S L:List Ent} {iq eq:Nat} {b c:Bool} (h:QQ.FAq S iq eq c):QQ.flS (S++L) iq eq b=QQ.flS S iq eq b++L:=Zq (Aw h)
theorem WW.Hj {S L:List Ent} {iq eq:Nat} {b c:Bool} (_:WW.FAq S iq eq c):WW.flS (S++L) iq eq b=WW.flS S iq eq b++L:=rfl
theorem WW.Bm {S:List Ent} {iq eq:Nat} {b:Bool} : (WW.flS S iq eq b).length=S.length:=rfl
theorem Bi {S:List Ent} {iq eq j:Nat} {b:Bool} (_:j≠iq):nth (WW.flS S iq eq b) j=nth S j:=rfl
theorem QQ.FAq.put {S:List Ent} {iq eq i:Nat} {b:Bool} {x:Ent} (h:QQ.FAq S iq eq b) (hne:i≠iq):QQ.FAq (put S i x) iq eq b:=by unfold QQ.FAq; rw [Ah hne]; exact h
theorem WW.FAq.put {S:List Ent} {iq eq i:Nat} {b:Bool} {x:Ent} (_:WW.FAq S iq eq b) (_:i≠iq):WW.FAq (put S i x) iq eq b:=⟨⟩
theorem QQ.FAq.of {S S':List Ent} {iq eq:Nat} {b:Bool} (h:QQ.FAq S iq eq b) (hne:nth S' iq=nth S iq):QQ.FAq S' iq eq b:=by unfold QQ.FAq; rw [Aa hne]; exact h
theorem WW.FAq.of {S S':List Ent} {iq eq:Nat} {b:Bool} (_:WW.FAq S iq eq b) (_:nth S' iq=nth S iq):WW.FAq S' iq eq b:=⟨⟩
section
variable (S:List Ent) (tk:List Nat) (k iq eq:Nat) (fl:Bool)
theorem QQ.L2 (a b:Q) (ha:QQ.qF.ok a) (hb:QQ.qF.ok b) (hq:QQ.FAq S iq eq fl):cL prog 158 [.ref iq eq 0,.agg (ceQ a),.agg (ceQ b)] S tk k=some (.agg (ceQ (QQ.qF.minus a b).1),QQ.flS S iq eq (QQ.qF.minus a b).2,tk,k+4):=Afe S tk k iq eq fl a b ha hb hq
theorem QQ.Ah6 (a b:Q) (ha:QQ.qF.ok a) (hb:QQ.qF.ok b) (hq:QQ.FAq S iq eq fl):cL prog 162 [.ref iq eq 0,.agg (ceQ a),.agg (ceQ b)] S tk k=some (.agg (ceQ (QQ.qF.times a b).1),QQ.flS S iq eq (QQ.qF.times a b).2,tk,k+4):=Aff S tk k iq eq fl a b ha hb hq
theorem QQ.Avw (a b:Q) (ha:QQ.qF.ok a) (hb:QQ.qF.ok b) (hq:QQ.FAq S iq eq fl):cL prog 159 [.ref iq eq 0,.agg (ceQ a),.agg (ceQ b)] S tk k=some (.agg (ceQ (QQ.qF.over a b).1),QQ.flS S iq eq (QQ.qF.over a b).2,tk,k+QQ.Acm b):=Ajf S tk k iq eq fl a b ha hb hq
theorem QQ.Km (n:Int) (_:i64 n) (hq:QQ.FAq S iq eq fl):cL prog 163 [.ref iq eq 0,.int n] S tk k=some (.agg (ceQ (QQ.qF.whole n).1),QQ.flS S iq eq (QQ.qF.whole n).2,tk,k+1):=Afg S tk k iq eq fl n hq
theorem QQ.Adh (a:Q) (_:QQ.qF.ok a) (hq:QQ.FAq S iq eq fl):cL prog 161 [.ref iq eq 0,.agg (ceQ a)] S tk k=some (.int (sgn a),S,tk,k+1):=Ajg S tk k iq eq fl a hq
theorem QQ.Vg (hq:QQ.FAq S iq eq fl):cL prog 157 [.ref iq eq 0] S tk k=some (.bool (!(QQ.qF.stop && fl)),S,tk,k):=Afd S tk k iq eq fl hq
theorem WW.Vg (_:WW.FAq S iq eq fl):cL prog 183 [.agg []] S tk k=some (.bool (!(WW.qF.stop && fl)),S,tk,k):=Ajk S tk k
theorem QQ.Q6 (a:Q) (ha:QQ.qF.ok a) (hq:QQ.FAq S iq eq fl):cL prog 160 [.ref iq eq 0,.agg (ceQ a)] S tk k=some (.agg (ceW (QQ.qF.rat a)),S,tk,k+3):=Xb S tk k iq eq fl a ha hq
theorem WW.Q6 (a:Q) (_:WW.qF.ok a) (_:WW.FAq S iq eq fl):cL prog 186 [.agg [],.agg (ceW a)] S tk k=some (.agg (ceW (WW.qF.rat a)),S,tk,k+0):=Aaj S tk k a
def WW.Acm (_:Q):Nat:=0
theorem WW.L2 (a b:Q) (ha:WW.qF.ok a) (hb:WW.qF.ok b) (_:WW.FAq S iq eq fl):cL prog 184 [.agg [],.agg (ceW a),.agg (ceW b)] S tk k=some (.agg (ceW (WW.qF.minus a b).1),WW.flS S iq eq (WW.qF.minus a b).2,tk,k+0):=Ajl S tk k a b ha hb
theorem WW.Ah6 (a b:Q) (ha:WW.qF.ok a) (hb:WW.qF.ok b) (_:WW.FAq S iq eq fl):cL prog 188 [.agg [],.agg (ceW a),.agg (ceW b)] S tk k=some (.agg (ceW (WW.qF.times a b).1),WW.flS S iq eq (WW.qF.times a b).2,tk,k+0):=Ajm S tk k a b ha hb
theorem WW.Avw (a b:Q) (ha:WW.qF.ok a) (hb:WW.qF.ok b) (_:WW.FAq S iq eq fl):cL prog 185 [.agg [],.agg (ceW a),.agg (ceW b)] S tk k=some (.agg (ceW (WW.qF.over a b).1),WW.flS S iq eq (WW.qF.over a b).2,tk,k+WW.Acm b):=An0 S tk k a b ha hb
theorem WW.Km (n:Int) (hn:i64 n) (_:WW.FAq S iq eq fl):cL prog 189 [.agg [],.int n] S tk k=some (.agg (ceW (WW.qF.whole n).1),WW.flS S iq eq (WW.qF.whole n).2,tk,k+0):=Ajn S tk k n hn
theorem WW.Adh (a:Q) (ha:WW.qF.ok a) (_:WW.FAq S iq eq fl):cL prog 187 [.agg [],.agg (ceW a)] S tk k=some (.int (sgn a),S,tk,k+0):=An1 S tk k a ha
end
/- the algorithm -/
def Lc (F:Fld) (b a r:Q):Q × Bool:=if sgn r=0 then (a,false) else ((F.minus a (F.times b r).1).1,(F.times b r).2 || (F.minus a (F.times b r).1).2)
def lessL (F:Fld) (b:Q):List Q->List Q->List Q × Bool
 | a :: l,r :: m=>((Lc F b a r).1 :: (lessL F b l m).1,(Lc F b a r).2 || (lessL F b l m).2)
 | l,_=>(l,false)
def lessT (F:Fld) (a r:List Q) (c:Nat):List Q × Bool:=match nth a c with|some b=>if sgn b=0 then (a,false) else lessL F b a r|none=>(a,false)
theorem Ej {α:Type} {p u:List α} {x:α} : nth (p++x :: u) p.length=some x:=by
 rw [Ag,Fc (Ce _),Ol]; rfl
theorem Ev {α:Type} {p u:List α} {x y:α} : put (p++x :: u) p.length y=p++y :: u:=by
 rw [Wh,jN _ _ (Ce _),Ol]; rfl
def okL (F:Fld) (l:List Q):Prop:=∀ q ∈ l,F.ok q
theorem Aq2 {F:Fld} (hF:F.Keeps) {b a r:Q} (hb:F.ok b) (ha:F.ok a) (hr:F.ok r):F.ok (Lc F b a r).1:=by
 unfold Lc;split
 ·exact ha
 ·exact hF.minus _ _ ha (hF.times _ _ hb hr)
theorem Ql {F:Fld} {b:Q} : ∀ {l m:List Q},(lessL F b l m).1.length=l.length
 | [],_=>by simp [lessL]
 | a :: l,[]=>rfl
 | a :: l,r :: m=>by simp only [lessL,Ch,Ql]
theorem Zt {F:Fld} (hF:F.Keeps) {b:Q} (hb:F.ok b):∀ {l m:List Q},okL F l->okL F m->okL F (lessL F b l m).1
 | [],_,h,_=>by simpa [lessL] using h
 | a :: l,[],h,_=>h
 | a :: l,r :: m,h,h'=>by
  intro q hq;simp only [lessL,Cv] at hq;rcases hq with rfl|hq
  ·exact Aq2 hF hb (h _ (by simp)) (h' _ (by simp))
  ·exact Zt hF hb (fun q hq=>h q bN) (fun q hq=>h' q bN) q hq
theorem QQ.Eh : mRow prog 95 "liquidcheck/simplex.whole" = some 163 ∧ mRow prog 95 "liquidcheck/simplex.minus" = some 158 ∧
  mRow prog 95 "liquidcheck/simplex.times" = some 162 ∧ mRow prog 95 "liquidcheck/simplex.over" = some 159 ∧
  mRow prog 95 "liquidcheck/simplex.sign" = some 161 ∧ mRow prog 95 "liquidcheck/simplex.rational" = some 160 ∧
  mRow prog 95 "liquidcheck/simplex.exact" = some 157 := aV
theorem WW.Eh : mRow prog 100 "liquidcheck/simplex.whole" = some 189 ∧ mRow prog 100 "liquidcheck/simplex.minus" = some 184 ∧
  mRow prog 100 "liquidcheck/simplex.times" = some 188 ∧ mRow prog 100 "liquidcheck/simplex.over" = some 185 ∧
  mRow prog 100 "liquidcheck/simplex.sign" = some 187 ∧ mRow prog 100 "liquidcheck/simplex.rational" = some 186 ∧
  mRow prog 100 "liquidcheck/simplex.exact" = some 183 := aV
theorem xfs:xF 157=true/\xF 158=true/\xF 159=true/\xF 160=true/\xF 161=true/\xF 162=true/\xF 163=true/\xF 110=true/\xF 115=true/\xF 37=true/\xF 60=true/\xF 39=true/\xF 63=true/\xF 40=true/\xF 36=true/\xF 112=true/\xF 117=true:=⟨rfl,rfl,rfl,rfl,rfl,rfl,rfl,rfl,rfl,rfl,rfl,rfl,rfl,rfl,rfl,rfl,rfl⟩
end
section
open Go
structure Tb where
 vars:Nat
 real:Nat
 rows:List (List Q)
 cost:List Q
 basis:List Nat
 flip:List Bool
 fl:Bool
def dvS (F:Fld) (b x:Q):Q × Bool:=if sgn x=0 then (x,false) else F.over x b
def divL (F:Fld) (b:Q):List Q->List Q × Bool
 | []=>([],false)
 | x :: l=>((dvS F b x).1 :: (divL F b l).1,(dvS F b x).2 || (divL F b l).2)
def lessK (F:Fld) (row:List Q) (c i k:Nat) (r:List Q):List Q × Bool:=if k=i then (r,false) else lessT F r row c
def lessRows (F:Fld) (row:List Q) (c i:Nat):Nat->List (List Q)->List (List Q) × Bool
 | _,[]=>([],false)
 | k,r :: l=>((lessK F row c i k r).1 :: (lessRows F row c i (k+1) l).1,(lessK F row c i k r).2 || (lessRows F row c i (k+1) l).2)
def at_ {α:Type} (d:α) (l:List α) (k:Nat):α:=(nth l k).getD d
def q0:Q:=(0,1)
def Ba (t:Tb) (i:Nat):List Q:=at_ [] t.rows i
def Dm (F:Fld) (t:Tb) (i c:Nat):Tb :=
 let d:=divL F (at_ q0 (Ba t i) c) (Ba t i)
 let rs:=lessRows F d.1 c i 0 (put t.rows i d.1)
 let k:=lessT F t.cost d.1 c
 { t with rows:=rs.1,cost:=k.1,basis:=put t.basis i c,fl:=((t.fl || d.2) || rs.2) || k.2 }
def worse (basis:List Nat) (s:Int) (k bi:Nat):Bool:=decide (0<s) || (s == 0 && decide (at_ 0 basis bi<at_ 0 basis k))
def Dd (F:Fld) (basis:List Nat) (c W:Nat):Nat->List (List Q)->Option (Nat × Q)->Option (Nat × Q) × Bool
 | _,[],b=>(b,false)
 | k,r :: l,b =>
  if sgn (at_ q0 r c)<=0 then Dd F basis c W (k+1) l b else
   let q:=F.over (at_ q0 r (W - 1)) (at_ q0 r c)
   match b with
   | none=>((Dd F basis c W (k+1) l (some (k,q.1))).1,q.2 || (Dd F basis c W (k+1) l (some (k,q.1))).2)
   | some (bi,least) =>
    let d:=F.minus q.1 least
    let b':=if worse basis (sgn d.1) k bi=true then some (bi,least) else some (k,q.1)
    ((Dd F basis c W (k+1) l b').1,(q.2 || d.2) || (Dd F basis c W (k+1) l b').2)
def B0 (F:Fld) (t:Tb) (c:Nat):Option (Nat × Q) × Bool:=Dd F t.basis c t.cost.length 0 t.rows none
def colF (cost:List Q):Nat->Nat->Option Nat
 | 0,_=>none
 | n+1,k=>if sgn (at_ q0 cost k)<0 then some k else colF cost n (k+1)
def Gp (F:Fld):Nat->Tb->Option (Bool × Tb)
 | 0,_=>none
 | n+1,t=>if (F.stop && t.fl)=true then some (true,t) else
  match colF t.cost t.real 0 with
  | none=>some (true,t)
  | some c=>match B0 F t c with
   | (none,f)=>some (false,{ t with fl:=t.fl || f })
   | (some (i,_),f)=>Gp F n (Dm F { t with fl:=t.fl || f } i c)
def Gw (t:Tb):Bool:=sgn (at_ q0 t.cost (t.cost.length - 1)) == 0
def Kp (basis:List Nat) (k:Nat):Nat->List (List Q)->Option Nat
 | _,[]=>none
 | i,_ :: l=>if at_ 0 basis i=k then some i else Kp basis k (i+1) l
def Db (F:Fld) (t:Tb) (k:Nat):Q × Bool:=match Kp t.basis k 0 t.rows with|some i=>(at_ q0 (Ba t i) (t.cost.length - 1),false)|none=>F.whole 0
def ptF (F:Fld) (t:Tb) (k:Nat):Q × Bool :=
 let a:=Db F t (2*k)
 let b:=Db F t (2*k+1)
 let d:=F.minus a.1 b.1
 (d.1,(a.2 || b.2) || d.2)
def Ga (f:Nat->Q × Bool):Nat->Nat->List Q × Bool
 | 0,_=>([],false)
 | n+1,k=>((f k).1 :: (Ga f n (k+1)).1,(f k).2 || (Ga f n (k+1)).2)
def Bq (F:Fld) (t:Tb):List Q × Bool:=Ga (ptF F t) t.vars 0
def mulF (F:Fld) (t:Tb) (i:Nat):Q × Bool :=
 let y:=F.minus (at_ q0 t.cost (t.real+i)) (F.whole 1).1
 if at_ false t.flip i=true then
  let z:=F.minus (F.whole 0).1 y.1
  (z.1,y.2 || ((F.whole 0).2 || z.2))
 else y
def Hd (F:Fld) (t:Tb):List Q × Bool:=((Ga (mulF F t) t.rows.length 0).1,(F.whole 1).2 || (Ga (mulF F t) t.rows.length 0).2)
def nzF (row:List Q):Nat->Nat->Option Nat
 | 0,_=>none
 | n+1,k=>if sgn (at_ q0 row k)=0 then nzF row n (k+1) else some k
def Dq (F:Fld) (t:Tb) (i:Nat):Tb:=if at_ 0 t.basis i<t.real then t else match nzF (Ba t i) t.real 0 with|some k=>Dm F t i k|none=>t
def settleF (F:Fld):Nat->Nat->Tb->Tb
 | 0,_,t=>t
 | n+1,i,t=>settleF F n (i+1) (Dq F t i)
structure TI where
 it:Nat
 et:Nat
 ir:Nat
 er:Nat
 ic:Nat
 ec:Nat
 ib:Nat
 eb:Nat
 ids:List (Nat × Nat)
structure Apart (I:TI) (iq:Nat):Prop where
 tr:I.it≠I.ir
 tc:I.it≠I.ic
 tb:I.it≠I.ib
 rc:I.ir≠I.ic
 rb:I.ir≠I.ib
 cb:I.ic≠I.ib
 qt:iq≠I.it
 qr:iq≠I.ir
 qc:iq≠I.ic
 qb:iq≠I.ib
 row:∀ p ∈ I.ids,p.1≠I.it/\p.1≠I.ir/\p.1≠I.ic/\p.1≠I.ib/\p.1≠iq
 rows:∀ i j p q,nth I.ids i=some p->nth I.ids j=some q->i≠j->p.1≠q.1
def da (W sz:Nat) (x:Nat × Nat):AV:=.sref x.1 x.2 0 W sz
def di (id ep sz:Nat):Nat->AV
 | 0=>.frz [] .nilc
 | n+1=>.sref id ep 0 (n+1) sz
def De (b:Bool):List AV:=[.bool b]
def intA (n:Nat):AV:=.int (n:Int)
theorem Ak {α:Type} {l:List α} {i:Nat} {x:α} (h:nth l i=some x):x ∈ l:=by rw [Ag] at h; exact I8 h
theorem Av {α:Type} {d:α} {l:List α} {k:Nat} {x:α} (h:nth l k=some x):at_ d l k=x:=by unfold at_; rw [h]; rfl
theorem Kt {α:Type} {l:List α} {i j:Nat} {x:α} (h:i<l.length):nth (put l i x) j=if j=i then some x else nth l j:=by
 by_cases e:j=i
 ·subst e; rw [if_pos rfl,Bw h]
 ·rw [if_neg e,Ab (Ih e)]
theorem Aj {α:Type} {l:List α} {i:Nat} {x:α} : (put l i x).length=l.length:=Ai
theorem Ms {α:Type} {l:List α} {i:Nat} {x y:α} : put (put l i x) i y=put l i y:=by
 induction l generalizing i with
 | nil=>rfl
 | cons z l ih=>cases i with
  | zero=>rfl
  | succ i=>simp only [put,ih]
theorem Wg {α:Type} {l:List α} {i:Nat} {x:α} (h:nth l i=some x):put l i x=l:=by
 induction l generalizing i with
 | nil=>rfl
 | cons z l ih=>cases i with
  | zero=>simp only [nth,A8] at h; subst h; rfl
  | succ i=>simp only [nth] at h; simp only [put,ih h]
theorem Bk {α:Type} {l:List α} {i:Nat} {x y:α} (h:y ∈ put l i x):y=x\/y ∈ l:=by
 rw [Wh] at h;rcases List.mem_or_eq_of_mem_set h with h|h
 ·exact .inr h
 ·exact .inl h
theorem A9 {id ep sz n:Nat} (h:0<n):di id ep sz n=.sref id ep 0 n sz:=by
 cases n with
 | zero=>omega
 | succ n=>rfl
theorem Eo {S:List Ent} {n i e:Nat} (h:i<n):entAt (S.take n) i e=entAt S i e:=by
 unfold entAt;rw [Ag,Ag,Od]; simp [h]
theorem QQ.FAq.take {S:List Ent} {n iq eq:Nat} {b:Bool} (h:QQ.FAq S iq eq b) (hi:iq<n):QQ.FAq (S.take n) iq eq b:=by unfold QQ.FAq; rw [Eo hi]; exact h
theorem WW.FAq.take {S:List Ent} {n iq eq:Nat} {b:Bool} (_:WW.FAq S iq eq b) (_:True):WW.FAq (S.take n) iq eq b:=⟨⟩
theorem B6 {α:Type} {l:List α} {n j:Nat} (h:j<n):nth (l.take n) j=nth l j:=by
 rw [Ag,Ag,Od]; simp [h]
theorem Ax {α:Type} {l m:List α} {j:Nat} (h:j<l.length):nth (l++m) j=nth l j:=by
 rw [Ag,Ag,C3 h]
theorem Anf {α:Type} {l:List α} {i:Nat} {x:α} : put l i x=[]↔l=[]:=by
 cases l with
 | nil=>simp [put]
 | cons y l=>cases i <;> simp [put]
end
section
open Go Tryz
def D2 (c:ByteArray × Int):List AV:=[.prim (.string c.1),.prim (.int .i64 c.2)]
def Ao (cs:List (ByteArray × Int)):AV:=.frz (cs.map D2) .unk
def linA (cs:List (ByteArray × Int)) (n:Int):AV:=.agg [Ao cs,.prim (.int .i64 n)]
def D7 (s:ByteArray):Bool:=sEq s ⟨#[]⟩ || decide ((s.size:Int) > 400)
def Kh:Option ByteArray->ByteArray->Bool
 | none,_=>false
 | some p,s=>sLt s p || sEq s p
def Bl (n:Int):Option ByteArray->List (ByteArray × Int)->Int
 | _,[]=>if inB n then 0 else 2
 | p,c :: cs=>if D7 c.1 then 3 else if c.2 == 0 || !inB c.2 then 2 else if Kh p c.1 then 9 else Bl n (some c.1) cs
def Bz (cs:List (ByteArray × Int)) (n:Int):Int:=if 24<cs.length then 7 else Bl n none cs
def G4 (cs:List (ByteArray × Int)):Nat->Option ByteArray
 | 0=>none
 | j+1=>(nth cs j).map (·.1)
section
variable (S:List Ent) (tk:List Nat) (k:Nat)
theorem Ae6 (n:Int):cL prog 54 [.int n] S tk k=some (.bool (inB n),S,tk,k):=by
 refine opP func54 ntmps54 ?_;simp +contextual only [ev0,reduceIte,reduceCtorEq,F5,Ip,Iq,F9,Ir,I6,G8,It,Cb,Bg,Cc,results54];unfold inB;exact ⟨fun h=>fM,fun h=>fM⟩
theorem Aj3 (n:Int):cL prog 56 [.int n] S tk k=some (.bool (inB n),S,tk,k):=by
 refine opP func56 ntmps56 ?_;simp +contextual only [ev0,reduceIte,reduceCtorEq,F5,Ip,Iq,F9,Ir,I6,G8,It,Cb,Bg,Cc,results56];unfold inB;exact ⟨fun h=>fM,fun h=>fM⟩
theorem Mk (cs:List (ByteArray × Int)) (n:Int) (hlen:cs.length<=1048576):cL prog 27 [linA cs n] S tk k=some (.int (Bz cs n),S,tk,k):=by
 refine opP func27 ntmps27 ?_;simp (maxSteps:=10^6)+contextual(disch:=try exact dqd)only[ev1,reduceIte,reduceCtorEq,F5,Ip,Iq,F9,Ir,I6,G8,It,Cb,Bg,Cc,results27,linA,Ao];refine ⟨fun h=>?_,fun h=>?_⟩
 ·unfold Bz; rw [if_pos fN]
 have hc:Bz cs n=Bl n none cs:=by unfold Bz; rw [if_neg fN]
 rw [hc];refine loop1 (fun i st=>st.T.length=57/\i<=cs.length/\getT st.T 1=.ref 0 0 0/\getT st.T 10=Ao cs/\getT st.T 11=.int cs.length/\getT st.T 12=.int (i:Nat)/\st.S=[⟨0,[Ao cs,.int n]⟩]) (fun i=>cs.length - i) (fun i=>.int (Bl n (G4 cs i) (cs.drop i))) 0 ?_ ?_;case refine_2=>exact ⟨rfl,Cl _,rfl,rfl,rfl,rfl,rfl⟩
 rintro i ⟨T,S',tk',n'⟩ ⟨hl,hi,e1,e10,e11,e12,rfl⟩ IH;obtain ⟨g,hg,hT⟩:=Au hl;rw [hg] at e1 e10 e11 e12;subst hT;clear hg hl h hc;by_cases hlt:i<cs.length
 ·have d1:decide ((i:Int)<(cs.length:Int))=true:=aQ
  obtain ⟨c,hc⟩:=Af hlt;have jg:nth (cs.map D2) i=some (D2 c):=by rw [Dx,hc]; rfl
  have hw:=B1 (i:=i) aA;have hp:G4 cs (i+1)=some c.1:=by simp [G4,hc]
  rw [A1 hc];rcases i with _|j
  ·have d2:decide (((0:Nat):Int) > 0)=false:=rfl;simp (maxSteps:=10^6)+contextual(disch:=try exact dqd)only[ev1,reduceIte,reduceCtorEq,F5,Ip,Iq,F9,Ir,I6,G8,It,Cb,Bg,Cc,results27,e1,e10,e11,e12,d1,d2,Ao,jg,hw,D2,Ae6];refine ⟨fun h1=>?_,fun h1=>⟨fun h2=>?_,fun h2=>⟨fun h3=>?_,fun h3=>⟨fun h4=>?_,fun h4=>?_⟩⟩⟩⟩
   ·simp [Bl,D7,h1]
   ·exact Ya41
   ·exact Ya3e
   ·rw [IH 1 _ aA ⟨rfl,aA,rfl,rfl,rfl,rfl,rfl⟩,hp];simp only [Bl,D7,h1,h2,h3,h4,G4,Kh]; rfl
   ·exact Ya2y
  ·have d2:decide (((j+1:Nat):Int) > 0)=true:=decide_eq_true aA;obtain ⟨p,r9⟩:=Af (show j<cs.length by omega);have fv:nth (cs.map D2) j=some (D2 p):=by rw [Dx,r9]; rfl
   have hw':=Adu (j:=j) aA;have hpp:G4 cs (j+1)=some p.1:=by simp [G4,r9]
   simp (maxSteps:=10^6)+contextual(disch:=try exact dqd)only[ev1,reduceIte,reduceCtorEq,F5,Ip,Iq,F9,Ir,I6,G8,It,Cb,Bg,Cc,results27,e1,e10,e11,e12,d1,d2,Ao,jg,hw,D2,Ae6,fv,hw'];refine ⟨fun h1=>?_,fun h1=>⟨fun h2=>?_,fun h2=>⟨fun h3=>?_,fun h3=>⟨fun h4=>?_,fun h4=>?_⟩⟩⟩⟩
   ·simp [Bl,D7,h1]
   ·exact Ya41
   ·exact Ya3e
   ·refine ⟨fun h5=>?_,fun h5=>?_⟩
    ·exact Ya1n
    ·rw [IH (j+1+1) _ aA ⟨rfl,aA,rfl,rfl,rfl,rfl,rfl⟩,hp];exact Ya1n
   ·exact Ya2y
 ·have d1:decide ((i:Int)<(cs.length:Int))=false:=aQ
  have he:i=cs.length:=aA
  simp (maxSteps:=10^6)+contextual(disch:=try exact dqd)only[ev1,reduceIte,reduceCtorEq,F5,Ip,Iq,F9,Ir,I6,G8,It,Cb,Bg,Cc,results27,e1,e10,e11,e12,d1,Ao,Ae6];exact Ya34
theorem Ju (cs:List (ByteArray × Int)) (n:Int) (hlen:cs.length<=1048576):cL prog 29 [linA cs n] S tk k=some (.int (Bz cs n),S,tk,k):=by
 refine opP func29 ntmps29 ?_;simp (maxSteps:=10^6)+contextual(disch:=try exact dqd)only[ev1,reduceIte,reduceCtorEq,F5,Ip,Iq,F9,Ir,I6,G8,It,Cb,Bg,Cc,results29,linA,Ao];refine ⟨fun h=>?_,fun h=>?_⟩
 ·unfold Bz; rw [if_pos fN]
 have hc:Bz cs n=Bl n none cs:=by unfold Bz; rw [if_neg fN]
 rw [hc];refine loop1 (fun i st=>st.T.length=60/\i<=cs.length/\getT st.T 1=.ref 0 0 0/\getT st.T 3=.int (i:Nat)/\st.S=[⟨0,[Ao cs,.int n]⟩]) (fun i=>cs.length - i) (fun i=>.int (Bl n (G4 cs i) (cs.drop i))) 0 ?_ ?_;case refine_2=>exact ⟨rfl,Cl _,rfl,rfl,rfl⟩
 rintro i ⟨T,S',tk',n'⟩ ⟨hl,hi,e1,e3,rfl⟩ IH;obtain ⟨g,hg,hT⟩:=Au hl;rw [hg] at e1 e3;subst hT;clear hg hl h hc;by_cases hlt:i<cs.length
 ·have d1:decide ((i:Int)<(cs.length:Int))=true:=aQ
  obtain ⟨c,hc⟩:=Af hlt;have jg:nth (cs.map D2) i=some (D2 c):=by rw [Dx,hc]; rfl
  have hw:=B1 (i:=i) aA;have hp:G4 cs (i+1)=some c.1:=by simp [G4,hc]
  rw [A1 hc];rcases i with _|j
  ·have d2:decide (((0:Nat):Int) > 0)=false:=rfl;simp (maxSteps:=10^6)+contextual(disch:=try exact dqd)only[ev1,reduceIte,reduceCtorEq,F5,Ip,Iq,F9,Ir,I6,G8,It,Cb,Bg,Cc,results29,e1,e3,d1,d2,Ao,jg,hw,D2,Aj3];refine ⟨fun h1=>?_,fun h1=>⟨fun h2=>?_,fun h2=>⟨fun h3=>?_,fun h3=>⟨fun h4=>?_,fun h4=>?_⟩⟩⟩⟩
   ·simp [Bl,D7,h1]
   ·exact Ya41
   ·exact Ya3e
   ·rw [IH 1 _ aA ⟨rfl,aA,rfl,rfl,rfl⟩,hp];simp only [Bl,D7,h1,h2,h3,h4,G4,Kh]; rfl
   ·exact Ya2y
  ·have d2:decide (((j+1:Nat):Int) > 0)=true:=decide_eq_true aA;obtain ⟨p,r9⟩:=Af (show j<cs.length by omega);have fv:nth (cs.map D2) j=some (D2 p):=by rw [Dx,r9]; rfl
   have hw':=Adu (j:=j) aA;have hpp:G4 cs (j+1)=some p.1:=by simp [G4,r9]
   simp (maxSteps:=10^6)+contextual(disch:=try exact dqd)only[ev1,reduceIte,reduceCtorEq,F5,Ip,Iq,F9,Ir,I6,G8,It,Cb,Bg,Cc,results29,e1,e3,d1,d2,Ao,jg,hw,D2,Aj3,fv,hw'];refine ⟨fun h1=>?_,fun h1=>⟨fun h2=>?_,fun h2=>⟨fun h3=>?_,fun h3=>⟨fun h4=>?_,fun h4=>?_⟩⟩⟩⟩
   ·simp [Bl,D7,h1]
   ·exact Ya41
   ·exact Ya3e
   ·refine ⟨fun h5=>?_,fun h5=>?_⟩
    ·exact Ya1n
    ·rw [IH (j+1+1) _ aA ⟨rfl,aA,rfl,rfl,rfl⟩,hp];exact Ya1n
   ·exact Ya2y
 ·have d1:decide ((i:Int)<(cs.length:Int))=false:=aQ
  have he:i=cs.length:=aA
  simp (maxSteps:=10^6)+contextual(disch:=try exact dqd)only[ev1,reduceIte,reduceCtorEq,F5,Ip,Iq,F9,Ir,I6,G8,It,Cb,Bg,Cc,results29,e1,e3,d1,Ao,Aj3];exact Ya34
end
end
section
open Go Tryz
set_option maxRecDepth 100000
abbrev RowT:=List (ByteArray × Int) × Int × Bool
def rowC (r:RowT):List AV:=[Ao r.1,.prim (.int .i64 r.2.1),.prim (.bool r.2.2)]
def Ar (l:List RowT):AV:=.frz (l.map rowC) .unk
theorem Lr {l:List RowT} {i:Nat} {r:RowT} (h:nth l i=some r):nth (l.map rowC) i=some (rowC r):=dN
theorem Ahg {l:List (ByteArray × Int)} {i:Nat} {c:ByteArray × Int} (h:nth l i=some c):nth (l.map D2) i=some (D2 c):=dN
theorem Ae5 {l:List ByteArray} {i:Nat} {s:ByteArray} (h:nth l i=some s):nth (l.map strC) i=some [.prim (.string s)]:=dN
theorem Hw (l:List ByteArray):Dk 1 (l.map strC)=true:=Gq (f:=strC) (sz:=1) (fun _=>rfl) l
def Di (l:List RowT):List ByteArray:=(l.map fun r=>r.1.map (·.1)).flatten
def Bh (l:List RowT):List ByteArray:=uniS (Di l)
theorem Aja (l:List RowT) (r:RowT):Di (l++[r])=Di l++r.1.map (·.1):=by simp [Di]
theorem Gs {α:Type} : ∀ {l:List α} {i:Nat} {x:α},nth l i=some x->l.take (i+1)=l.take i++[x]
 | a :: l,0,x,h=>dS
 | a :: l,i+1,x,h=>by simp only [F7,Cn,Gs (l:=l) (i:=i) h]
 | [],_,_,h=>bK
def fewC (l:List RowT):Prop:=∀ r ∈ l,r.1.length<=24
theorem Ac0:∀ {l:List RowT},fewC l->(Di l).length<=24*l.length
 | [],_=>by simp [Di]
 | r :: l,h=>by
  have h1:=h r (by simp);have h2:=Ac0 (l:=l) fun x hx=>h x bM;simp only [Di,Ct,F3,Cm,Fj,Ch] at h2 ⊢;omega
theorem Zw {α:Type} {l:List α} {i:Nat} {x:α} (h:nth l i=some x):x ∈ l:=I8 (by rw [Ag] at h; exact h)
theorem Acl:∀ (l:List ByteArray) (s:ByteArray),∃ i,i<=l.length/\(∀ j x,j<i->nth l j=some x->sLt x s=true)/\(∀ x,nth l i=some x->sLt x s=false) /\
  putS l s=l.take i++[s]++l.drop (match nth l i with|some x=>if sEq x s=true then i+1 else i|none=>i)
 | [],s=>⟨0,Ce _,fun j x h=>aA,fun x h=>bK,rfl⟩
 | y :: r,s=>by
  cases h1:sLt y s with
  | true =>
   obtain ⟨i,a,b,c,d⟩:=Acl r s;refine ⟨i+1,by simp; exact a,fun j x hj hx=>?_,c,?_⟩
   ·cases j with
    | zero=>simp only [nth,A8] at hx; subst hx; exact h1
    | succ j=>exact b j x aA hx
   ·rw [putS,if_pos h1,d];simp only [nth];cases nth r i with
    | none=>simp
    | some x=>by_cases h:sEq x s=true <;> simp [h]
  | false =>
   refine ⟨0,Cl _,fun j x hj=>aA,fun x hx=>?_,?_⟩
   ·simp only [nth,A8] at hx; subst hx; exact h1
   ·rw [putS,if_neg dB];simp only [nth];by_cases h:sEq y s=true
    ·have:y=s:=by rw [N3] at h; simpa using h
     rw [if_pos h,if_pos h,this]; simp
    ·rw [if_neg h,if_neg h]; simp
section
variable (S:List Ent) (tk:List Nat) (k:Nat)
theorem Aj8 (l:List ByteArray) (s:ByteArray) (c:Cap) (hl:l.length<=100000):cL prog 80 [.frz (l.map strC) c,.str s] S tk k=some (Aq (putS l s),S,tk,k):=by
 obtain ⟨i,oj,h2,h3,h4⟩:=Acl l s;rw [h4];refine opP func80 ntmps80 ?_;simp (maxSteps:=10^6)+contextual(disch:=try exact dqd)only[ev1,simprocAttr,Cb,Bg,Cc,results80];refine loop1 (P:=prog) (fun x st=>st.T.length=52/\(x.1<=i)/\(x.2.1=l.take x.1)/\(Bn st.tk x.2.2 1=true)/\getT st.T 0=Aq l/\getT st.T 1=.str s/\getT st.T 5=.frz (x.2.1.map strC) x.2.2/\getT st.T 6=.int (x.1:Nat)/\st.S=[]) (fun x=>i - x.1) (fun x=>Aq (l.take i++[s]++l.drop (match nth l i with|some x=>if sEq x s=true then i+1 else i|none=>i))) (0,[],.nilc) ?_ ?_;case refine_2=>exact ⟨rfl,Cl _,rfl,rfl,rfl,rfl,rfl,rfl,rfl⟩
 rintro ⟨j,out,c⟩ ⟨T,S',tk',n'⟩ ⟨hl,hj,ho,ah,e0,e1,e5,e6,eS⟩ IH;simp only at hj ho ah e0 e1 e5 e6 eS;subst eS;obtain ⟨g,hg,hT⟩:=Au hl;rw [hg] at e0 e1 e5 e6;subst hT;clear hg hl;have u7:out.length<=l.length:=by rw [ho]; simp; omega
 have htl:(l.map strC).take l.length=l.map strC:=C6 (by simp);have hr:=Hw out;have ci:=B3 ah;have bo:(out.map strC).length+1<=1048576:=aD
 have hjw:=B1 (i:=j) aA;by_cases hlt:j<i
 ·have d1:decide ((j:Int)<(l.length:Int))=true:=aD
  obtain ⟨x,hx⟩:=Af (show j<l.length by omega);have hx':=Ae5 hx;have d2:=h2 j x hlt hx;have hts:=Gs hx;simp (maxSteps:=10^6)+contextual(disch:=try exact dqd)only[ev1,simprocAttr,Cb,Bg,Cc,results80,e0,e1,e5,e6,d1,d2,Aq,hx',hr,hjw];exact IH (j+1,out++[x],A6 tk' c 1) _ aF ⟨rfl,aE,by rw [hts,ho],ci,aJ,aJ,aJ,aJ,aJ⟩
 have vw:j=i:=aA
 subst vw;subst ho;have ae:=Hw (l.take j++[s]);have hr3:=Hw l;have gt:=B3 ci;simp only [F4,Ct,Ei,strC] at ae;by_cases gj:j<l.length;case neg =>
  have d1:decide ((j:Int)<(l.length:Int))=false:=aD
  have hjn:nth l j=none:=by rw [Ag]; exact Cu aA
  have hr4:Dk 1 (((l.map strC).take l.length).drop j)=true:=Za1e
  have bm:((l.take j).map strC++[[(.prim (.string s):AV)]]).length+(((l.map strC).take l.length).drop j).length<=1048576:=aD
  simp (maxSteps:=10^6)+contextual(disch:=try exact dqd)only[ev1,simprocAttr,Cb,Bg,Cc,results80,e0,e1,e5,e6,d1,Aq,hr,Jg,hr3,bound,oj,Ce,Cl,ae,hr4]
  simp [hjn,strC,htl]
 have d1:decide ((j:Int)<(l.length:Int))=true:=aD
 obtain ⟨x,hx⟩:=Af gj;have hx':=Ae5 hx;have d2:=h3 x hx;have hj1:j+1<=l.length:=gj;cases d3:sEq x s with
 | true =>
  have hr4:Dk 1 (((l.map strC).take l.length).drop (j+1))=true:=Za1e
  have bm:((l.take j).map strC++[[(.prim (.string s):AV)]]).length+(((l.map strC).take l.length).drop (j+1)).length<=1048576:=aD
  simp (maxSteps:=10^6)+contextual(disch:=try exact dqd)only[ev1,simprocAttr,Cb,Bg,Cc,results80,e0,e1,e5,e6,d1,d2,d3,hx',hjw,Aq,hr,Jg,hr3,bound,hj1,Ce,Cl,ae,hr4];simp [hx,d3,strC,htl]
 | false =>
  have hr4:Dk 1 (((l.map strC).take l.length).drop j)=true:=Za1e
  have bm:((l.take j).map strC++[[(.prim (.string s):AV)]]).length+(((l.map strC).take l.length).drop j).length<=1048576:=aD
  simp (maxSteps:=10^6)+contextual(disch:=try exact dqd)only[ev1,simprocAttr,Cb,Bg,Cc,results80,e0,e1,e5,e6,d1,d2,d3,hx',hjw,Aq,hr,Jg,hr3,bound,oj,Ce,Cl,ae,hr4];simp [hx,d3,strC,htl]
theorem Aj7 (l:List ByteArray) (s:ByteArray) (c c2:Cap) (hi:Inc l) (hl:l.length<=90000):cL prog 57 [.frz (l.map strC) c,.frz [[.prim (.string s)]] c2] S tk k=some (Aq (putS l s),S,tk,k):=by
 refine opP func57 ntmps57 ?_;simp (maxSteps:=10^6)+contextual(disch:=try exact dqd)only[ev1,simprocAttr,Cb,Bg,Cc,results57];refine loop1 (P:=prog) (fun x st=>st.T.length=33/\(x.1<=l.length)/\(x.2.1=l.take x.1)/\getT st.T 0=Aq l/\getT st.T 1=.frz [[.prim (.string s)]] .unk/\getT st.T 5=.frz (x.2.1.map strC) x.2.2/\getT st.T 8=Aq l/\getT st.T 9=.int l.length/\getT st.T 10=.int (x.1:Nat)/\st.S=[]) (fun x=>l.length - x.1) (fun x=>Aq (putS l s)) (0,[],.nilc) ?_ ?_;case refine_2=>exact ⟨rfl,Cl _,rfl,rfl,rfl,rfl,rfl,rfl,rfl,rfl⟩
 rintro ⟨j,out,c3⟩ ⟨T,S',tk',n'⟩ ⟨hl,hj,ho,e0,e1,e5,e8,e9,e10,eS⟩ IH;simp only at hj ho e0 e1 e5 e8 e9 e10 eS;subst eS;obtain ⟨g,hg,hT⟩:=Au hl;rw [hg] at e0 e1 e5 e8 e9 e10;subst hT;clear hg hl;have hjw:=B1 (i:=j) aA;have u7:out.length<=l.length:=by rw [ho]; simp; omega
 by_cases hlt:j<l.length
 ·have d1:decide ((j:Int)<(l.length:Int))=true:=aQ
  obtain ⟨x,hx⟩:=Af hlt;have hx':=Ae5 hx;have hP:=fun S tk k=>Aj8 S tk k out x c3 aA;have hpe:putS out x=out++[x]:=Ahm fun y hy=>by
   rw [ho] at hy;have h1:Inc (l.take j++l.drop j):=by rw [Oq]; exact hi
   exact (List.pairwise_append.1 h1).2.2 y hy x (by rw [A1 hx]; simp)
  rw [hpe] at hP;simp only [Aq] at hP;have hts:=Gs hx;simp (maxSteps:=10^6)+contextual(disch:=try exact dqd)only[ev1,simprocAttr,Cb,Bg,Cc,results57,e0,e1,e5,e8,e9,e10,d1,Aq,hx',hjw,hP];exact IH (j+1,out++[x],.unk) _ aF ⟨rfl,aE,by rw [hts,ho],aJ,aJ,aJ,aJ,aJ,aJ,aJ⟩
 ·have d1:decide ((j:Int)<(l.length:Int))=false:=aQ
  have vw:j=l.length:=aA
  subst vw;rw [Fm] at ho;subst ho;have hP:=fun S tk k=>Aj8 S tk k out s c3 aA;simp only [Aq] at hP;simp (maxSteps:=10^6)+contextual(disch:=try exact dqd)only[ev1,simprocAttr,Cb,Bg,Cc,results57,e0,e1,e5,e8,e9,e10,d1,Aq];refine loop1 (P:=prog) (fun x st=>st.T.length=33/\(x<=1)/\getT st.T 1=.frz [[.prim (.string s)]] .unk/\getT st.T 5=(if x=0 then .frz (out.map strC) c3 else Aq (putS out s))/\getT st.T 20=.frz [[.prim (.string s)]] .unk/\getT st.T 21=.int ((1:Nat):Int)/\getT st.T 22=.int (x:Nat)/\st.S=[]) (fun x=>1 - x) (fun x=>Aq (putS out s)) (0) ?_ ?_;case refine_2=>exact ⟨rfl,Cl _,rfl,rfl,rfl,rfl,rfl,rfl⟩
  rintro j ⟨T,S',tk',n'⟩ ⟨hl,hj,e1,e5,e20,e21,e22,eS⟩ IH;subst eS;obtain ⟨g,hg,hT⟩:=Au hl;rw [hg] at e1 e5 e20 e21 e22;subst hT;clear hg hl;by_cases h0:j=0
  ·subst h0;rw [if_pos rfl] at e5;have d2:decide (((0:Nat):Int)<((1:Nat):Int))=true:=rfl;have a5y:Ca.wrap (((0:Nat):Int)+1)=((1:Nat):Int):=Ac aC;simp (maxSteps:=10^6)+contextual(disch:=try exact dqd)only[ev1,simprocAttr,Cb,Bg,Cc,results57,e1,e5,e20,e21,e22,d2,a5y,hP];exact IH (1) _ aF ⟨rfl,aE,aJ,aJ,aJ,aJ,aJ,aJ⟩
  ·have hj1:j=1:=aA
   subst hj1;rw [if_neg aA] at e5;have d2:decide (((1:Nat):Int)<((1:Nat):Int))=false:=rfl;simp (maxSteps:=10^6)+contextual(disch:=try exact dqd)only[ev1,simprocAttr,Cb,Bg,Cc,results57,e1,e5,e20,e21,e22,d2,Aq]
end
end
section
open Go Tryz
set_option maxRecDepth 100000
theorem X5 {l:List RowT} {i:Nat} {r:RowT} (h:nth l i=some r):Di (l.take (i+1))=Di (l.take i)++r.1.map (·.1):=by
 rw [Gs h,Aja]
theorem Ap5 {l:List RowT} (h:fewC l) (i:Nat):fewC (l.take i):=fun r hr=>h r (kE hr)
theorem Als {l:List RowT} (h:fewC l) (hl:l.length<=64) (i:Nat):(Di (l.take i)).length<=1536:=by
 have h1:=Ac0 (Ap5 h i);have:(l.take i).length<=64:=aD
 omega
theorem At8 (l:List ByteArray):(uniS l).length<=l.length:=(M5 l).2.2
section
variable (S:List Ent) (tk:List Nat) (k:Nat)
theorem Pu (l:List RowT) (hf:fewC l) (hl:l.length<=64):cL prog 30 [Ar l] S tk k=some (Aq (Bh l),S,tk,k):=by
 refine opP func30 ntmps30 ?_;simp (maxSteps:=10^6)+contextual(disch:=try exact dqd)only[ev1,simprocAttr,Cb,Bg,Cc,results30,Ar];refine loop1 (P:=prog) (fun x st=>st.T.length=30/\(x.1<=l.length)/\(x.2.1=uniS (Di (l.take x.1)))/\getT st.T 3=.frz (x.2.1.map strC) x.2.2/\getT st.T 8=Ar l/\getT st.T 9=.int l.length/\getT st.T 10=.int (x.1:Nat)/\st.S=[]) (fun x=>l.length - x.1) (fun x=>Aq (Bh l)) (0,[],.nilc) ?_ ?_;case refine_2=>exact ⟨rfl,Cl _,rfl,rfl,rfl,rfl,rfl,rfl⟩
 rintro ⟨i,out,c⟩ ⟨T,S',tk',n'⟩ ⟨hl,hi,ho,e3,e8,e9,e10,eS⟩ IH;simp only at hi ho e3 e8 e9 e10 eS;subst eS;obtain ⟨g,hg,hT⟩:=Au hl;rw [hg] at e3 e8 e9 e10;subst hT;clear hg hl;have OUT:=IH;clear IH;have ez:=B1 (i:=i) aA;by_cases hlt:i<l.length
 ·have d1:decide ((i:Int)<(l.length:Int))=true:=aQ
  obtain ⟨r,hx⟩:=Af hlt;have hx':=Lr hx;have iw:=hf r (Zw hx);have hnl:=Als hf hl i;have nk:=X5 hx;simp only [rowC,Ao] at hx';simp (maxSteps:=10^6)+contextual(disch:=try exact dqd)only[ev1,simprocAttr,Cb,Bg,Cc,results30,e3,e8,e9,e10,d1,Ar,hx'];refine loop1 (P:=prog) (fun x st=>st.T.length=30/\(x.1<=r.1.length)/\(x.2.1=uniS (Di (l.take i)++(r.1.take x.1).map (·.1)))/\getT st.T 3=.frz (x.2.1.map strC) x.2.2/\getT st.T 8=Ar l/\getT st.T 9=.int l.length/\getT st.T 10=.int (i:Nat)/\getT st.T 16=.frz (r.1.map D2) .unk/\getT st.T 17=.int r.1.length/\getT st.T 18=.int (x.1:Nat)/\st.S=[⟨n',[.frz (r.1.map D2) .unk,.int r.2.1,.bool r.2.2]⟩]) (fun x=>r.1.length - x.1) (fun x=>Aq (Bh l)) (0,out,c) ?_ ?_;case refine_2=>exact ⟨rfl,Cl _,by simp [ho],rfl,rfl,rfl,rfl,rfl,rfl,rfl,rfl⟩
  rintro ⟨j,out2,c2⟩ ⟨T,S',tk',n'⟩ ⟨hl,hj,ja,e3,e8,e9,e10,e16,e17,e18,eS⟩ IH;simp only at hj ja e3 e8 e9 e10 e16 e17 e18 eS;subst eS;obtain ⟨g,hg,hT⟩:=Au hl;rw [hg] at e3 e8 e9 e10 e16 e17 e18;subst hT;clear hg hl;have hjw:=B1 (i:=j) aA;have vq:(Di (l.take i)++(r.1.take j).map (·.1)).length<=1600:=aD
  have hul:=At8 (Di (l.take i)++(r.1.take j).map (·.1));by_cases dj:j<r.1.length
  ·have d2:decide ((j:Int)<(r.1.length:Int))=true:=bW
   obtain ⟨q,hq⟩:=Af dj;have o5:=Ahg hq;simp only [D2] at o5;have hU:=fun S tk k=>Aj7 S tk k out2 q.1 c2 .tight (by rw [ja]; exact (M5 _).1) (by rw [ja]; omega);have hts:=Gs hq;simp only [Aq] at hU;simp (maxSteps:=10^6)+contextual(disch:=try exact dqd)only[ev1,simprocAttr,Cb,Bg,Cc,results30,e3,e8,e9,e10,e16,e17,e18,d2,o5,hjw,hU];exact IH (j+1,putS out2 q.1,.unk) _ aF ⟨rfl,aE,by rw [hts,F4,<- Fa,Ct,Ei,Aib,ja],aJ,aJ,aJ,aJ,aJ,aJ,aJ,aJ⟩
  ·have d2:decide ((j:Int)<(r.1.length:Int))=false:=bW
   have vw:j=r.1.length:=aA
   subst vw;rw [Fm] at ja;simp (maxSteps:=10^6)+contextual(disch:=try exact dqd)only[ev1,simprocAttr,Cb,Bg,Cc,results30,e3,e8,e9,e10,e16,e17,e18,d2,ez];exact OUT (i+1,out2,c2) _ aF ⟨rfl,aE,by rw [nk,ja],aJ,aJ,aJ,aJ,aJ⟩
 ·have d1:decide ((i:Int)<(l.length:Int))=false:=aQ
  have m6:i=l.length:=aA
  subst m6;rw [Fm] at ho;simp (maxSteps:=10^6)+contextual(disch:=try exact dqd)only[ev1,simprocAttr,Cb,Bg,Cc,results30,e3,e8,e9,e10,d1,Ar];rw [ho]; rfl
theorem Dr (l:List RowT) (hf:fewC l) (hl:l.length<=64):cL prog 28 [Ar l] S tk k=some (Aq (Bh l),S,tk,k):=by
 refine opP func28 ntmps28 ?_;simp (maxSteps:=10^6)+contextual(disch:=try exact dqd)only[ev1,simprocAttr,Cb,Bg,Cc,results28,Ar];refine loop1 (P:=prog) (fun x st=>st.T.length=31/\(x.1<=l.length)/\(x.2.1=Di (l.take x.1))/\(Bn st.tk x.2.2 1=true)/\((!x.2.1.isEmpty || Vu x.2.2)=true)/\getT st.T 3=.frz (x.2.1.map strC) x.2.2/\getT st.T 8=Ar l/\getT st.T 9=.int l.length/\getT st.T 10=.int (x.1:Nat)/\st.S=[]) (fun x=>l.length - x.1) (fun x=>Aq (Bh l)) (0,[],.nilc) ?_ ?_;case refine_2=>exact ⟨rfl,Cl _,rfl,rfl,rfl,rfl,rfl,rfl,rfl,rfl⟩
 rintro ⟨i,out,c⟩ ⟨T,S',tk',n'⟩ ⟨hl,hi,ho,ah,hc,e3,e8,e9,e10,eS⟩ IH;simp only at hi ho ah hc e3 e8 e9 e10 eS;subst eS;obtain ⟨g,hg,hT⟩:=Au hl;rw [hg] at e3 e8 e9 e10;subst hT;clear hg hl;have OUT:=IH;clear IH;have ez:=B1 (i:=i) aA;have hnl:=Als hf hl i;by_cases hlt:i<l.length
 ·have d1:decide ((i:Int)<(l.length:Int))=true:=aQ
  obtain ⟨r,hx⟩:=Af hlt;have hx':=Lr hx;have iw:=hf r (Zw hx);have nk:=X5 hx;simp only [rowC,Ao] at hx';simp (maxSteps:=10^6)+contextual(disch:=try exact dqd)only[ev1,simprocAttr,Cb,Bg,Cc,results28,e3,e8,e9,e10,d1,Ar,hx'];refine loop1 (P:=prog) (fun x st=>st.T.length=31/\(x.1<=r.1.length)/\(x.2.1=Di (l.take i)++(r.1.take x.1).map (·.1))/\(Bn st.tk x.2.2 1=true)/\((!x.2.1.isEmpty || Vu x.2.2)=true)/\getT st.T 3=.frz (x.2.1.map strC) x.2.2/\getT st.T 8=Ar l/\getT st.T 9=.int l.length/\getT st.T 10=.int (i:Nat)/\getT st.T 16=.frz (r.1.map D2) .unk/\getT st.T 17=.int r.1.length/\getT st.T 18=.int (x.1:Nat)/\st.S=[⟨n',[.frz (r.1.map D2) .unk,.int r.2.1,.bool r.2.2]⟩]) (fun x=>r.1.length - x.1) (fun x=>Aq (Bh l)) (0,out,c) ?_ ?_;case refine_2=>exact ⟨rfl,Cl _,by simp [ho],ah,hc,rfl,rfl,rfl,rfl,rfl,rfl,rfl,rfl⟩
  rintro ⟨j,out2,c2⟩ ⟨T,S',tk',n'⟩ ⟨hl,hj,ja,gt,hc2,e3,e8,e9,e10,e16,e17,e18,eS⟩ IH;simp only at hj ja gt hc2 e3 e8 e9 e10 e16 e17 e18 eS;subst eS;obtain ⟨g,hg,hT⟩:=Au hl;rw [hg] at e3 e8 e9 e10 e16 e17 e18;subst hT;clear hg hl;have hjw:=B1 (i:=j) aA;have vq:out2.length<=1600:=by rw [ja]; simp; omega
  have hr:=Hw out2;have ci:=B3 gt;have bo:(out2.map strC).length+1<=1048576:=aD
  by_cases dj:j<r.1.length
  ·have d2:decide ((j:Int)<(r.1.length:Int))=true:=bW
   obtain ⟨q,hq⟩:=Af dj;have o5:=Ahg hq;simp only [D2] at o5;have hts:=Gs hq;simp (maxSteps:=10^6)+contextual(disch:=try exact dqd)only[ev1,simprocAttr,Cb,Bg,Cc,results28,e3,e8,e9,e10,e16,e17,e18,d2,o5,hjw,hr];exact IH (j+1,out2++[q.1],A6 tk' c2 1) _ aF ⟨rfl,aE,by rw [hts,F4,<- Fa,ja]; rfl,ci,by simp,aJ,aJ,aJ,aJ,aJ,aJ,aJ,aJ⟩
  ·have d2:decide ((j:Int)<(r.1.length:Int))=false:=bW
   have vw:j=r.1.length:=aA
   subst vw;rw [Fm] at ja;simp (maxSteps:=10^6)+contextual(disch:=try exact dqd)only[ev1,simprocAttr,Cb,Bg,Cc,results28,e3,e8,e9,e10,e16,e17,e18,d2,ez];exact OUT (i+1,out2,c2) _ aF ⟨rfl,aE,by rw [nk,ja],gt,hc2,aJ,aJ,aJ,aJ,aJ⟩
 ·have d1:decide ((i:Int)<(l.length:Int))=false:=aQ
  have m6:i=l.length:=aA
  subst m6;rw [Fm] at ho hnl;have hU:=fun S tk k=>Ae3 S tk k out c (by rw [ho]; omega) hc;simp only [Aq] at hU;simp (maxSteps:=10^6)+contextual(disch:=try exact dqd)only[ev1,simprocAttr,Cb,Bg,Cc,results28,e3,e8,e9,e10,d1,Ar,hU];rw [ho]; rfl
def G9:List RowT->Int
 | []=>0
 | r :: l=>if Bz r.1 r.2.1 != 0 then Bz r.1 r.2.1 else G9 l
def sysE (l:List RowT):Int:=if 64<l.length then 7 else if G9 l != 0 then G9 l else if 24<(Bh l).length then 7 else 0
theorem Dz {cs:List (ByteArray × Int)} {n:Int} (h:Bz cs n=0):cs.length<=24:=by
 unfold Bz at h;split at h
 ·cases h
 ·omega
theorem Qa:∀ {l:List RowT},G9 l=0->fewC l
 | [],_=>fun r hr=>by simp at hr
 | r :: l,h=>by
  unfold G9 at h;by_cases h0:Bz r.1 r.2.1=0
  ·rw [h0] at h;simp only [bne_self_eq_false,Ef,if_false] at h;intro x hx;rcases Cv.1 hx with rfl|hx
   ·exact Dz h0
   ·exact Qa h x hx
  ·exact Ya3w
theorem Ge (l:List RowT) (c8:∀ r ∈ l,r.1.length<=1048576):cL prog 8 [Ar l] S tk k=some (.int (sysE l),S,tk,k):=by
 refine opP func8 ntmps8 ?_;by_cases uj:64<l.length
 ·have d0:decide ((l.length:Int) > 64)=true:=aD
  simp (maxSteps:=10^6)+contextual(disch:=try exact dqd)only[ev1,simprocAttr,Cb,Bg,Cc,results8,Ar,d0];simp [sysE,uj]
 have d0:decide ((l.length:Int) > 64)=false:=aD
 simp (maxSteps:=10^6)+contextual(disch:=try exact dqd)only[ev1,simprocAttr,Cb,Bg,Cc,results8,Ar,d0];refine loop1 (P:=prog) (fun x st=>st.T.length=26/\(x<=l.length)/\(G9 l=G9 (l.drop x))/\getT st.T 0=Ar l/\getT st.T 9=Ar l/\getT st.T 10=.int l.length/\getT st.T 11=.int (x:Nat)/\st.S=[]) (fun x=>l.length - x) (fun x=>.int (sysE l)) (0) ?_ ?_;case refine_2=>exact ⟨rfl,Cl _,rfl,rfl,rfl,rfl,rfl,rfl⟩
 rintro i ⟨T,S',tk',n'⟩ ⟨hl,hi,hE,e0,e9,e10,e11,eS⟩ IH;subst eS;obtain ⟨g,hg,hT⟩:=Au hl;rw [hg] at e0 e9 e10 e11;subst hT;clear hg hl;have ez:=B1 (i:=i) aA;by_cases hlt:i<l.length
 ·have d1:decide ((i:Int)<(l.length:Int))=true:=aQ
  obtain ⟨r,hx⟩:=Af hlt;have hx':=Lr hx;have hC:=fun S tk k=>Ju S tk k r.1 r.2.1 (c8 r (Zw hx));simp only [rowC,Ao] at hx';simp only [linA,Ao] at hC;rw [A1 hx,G9] at hE;generalize Bz r.1 r.2.1=e at *;cases h0:(e != 0) with
  | true =>
   simp (maxSteps:=10^6)+contextual(disch:=try exact dqd)only[ev1,simprocAttr,Cb,Bg,Cc,results8,e0,e9,e10,e11,d1,Ar,hx',hC,ez,h0];exact Ya46
  | false =>
   rw [h0,if_neg (by simp)] at hE;simp (maxSteps:=10^6)+contextual(disch:=try exact dqd)only[ev1,simprocAttr,Cb,Bg,Cc,results8,e0,e9,e10,e11,d1,Ar,hx',hC,ez,h0];exact IH (i+1) _ aF ⟨rfl,aE,hE,aJ,aJ,aJ,aJ,aJ⟩
 ·have d1:decide ((i:Int)<(l.length:Int))=false:=aQ
  have m6:i=l.length:=aA
  subst m6;rw [Ik] at hE;have gc:G9 l=0:=hE;have hV:=fun S tk k=>Pu S tk k l (Qa gc) aA;have hs:sysE l=if 24<(Bh l).length then 7 else 0:=by unfold sysE; rw [if_neg uj,gc]; rfl
  rw [hs];simp only [Ar,Aq] at hV;by_cases h24:24<(Bh l).length
  ·have d2:decide (((Bh l).length:Int) > 24)=true:=aD
   simp (maxSteps:=10^6)+contextual(disch:=try exact dqd)only[ev1,simprocAttr,Cb,Bg,Cc,results8,e0,e9,e10,e11,d1,Ar,hV,d2];rw [if_pos h24]
  ·have d2:decide (((Bh l).length:Int) > 24)=false:=aD
   simp (maxSteps:=10^6)+contextual(disch:=try exact dqd)only[ev1,simprocAttr,Cb,Bg,Cc,results8,e0,e9,e10,e11,d1,Ar,hV,d2];rw [if_neg h24]
theorem Ew (l:List RowT) (c8:∀ r ∈ l,r.1.length<=1048576):cL prog 7 [Ar l] S tk k=some (.int (sysE l),S,tk,k):=by
 refine opP func7 ntmps7 ?_;by_cases uj:64<l.length
 ·have d0:decide ((l.length:Int) > 64)=true:=aD
  simp (maxSteps:=10^6)+contextual(disch:=try exact dqd)only[ev1,simprocAttr,Cb,Bg,Cc,results7,Ar,d0];simp [sysE,uj]
 have d0:decide ((l.length:Int) > 64)=false:=aD
 simp (maxSteps:=10^6)+contextual(disch:=try exact dqd)only[ev1,simprocAttr,Cb,Bg,Cc,results7,Ar,d0];refine loop1 (P:=prog) (fun x st=>st.T.length=26/\(x<=l.length)/\(G9 l=G9 (l.drop x))/\getT st.T 0=Ar l/\getT st.T 9=Ar l/\getT st.T 10=.int l.length/\getT st.T 11=.int (x:Nat)/\st.S=[]) (fun x=>l.length - x) (fun x=>.int (sysE l)) (0) ?_ ?_;case refine_2=>exact ⟨rfl,Cl _,rfl,rfl,rfl,rfl,rfl,rfl⟩
 rintro i ⟨T,S',tk',n'⟩ ⟨hl,hi,hE,e0,e9,e10,e11,eS⟩ IH;subst eS;obtain ⟨g,hg,hT⟩:=Au hl;rw [hg] at e0 e9 e10 e11;subst hT;clear hg hl;have ez:=B1 (i:=i) aA;by_cases hlt:i<l.length
 ·have d1:decide ((i:Int)<(l.length:Int))=true:=aQ
  obtain ⟨r,hx⟩:=Af hlt;have hx':=Lr hx;have hC:=fun S tk k=>Mk S tk k r.1 r.2.1 (c8 r (Zw hx));simp only [rowC,Ao] at hx';simp only [linA,Ao] at hC;rw [A1 hx,G9] at hE;generalize Bz r.1 r.2.1=e at *;cases h0:(e != 0) with
  | true =>
   simp (maxSteps:=10^6)+contextual(disch:=try exact dqd)only[ev1,simprocAttr,Cb,Bg,Cc,results7,e0,e9,e10,e11,d1,Ar,hx',hC,ez,h0];exact Ya46
  | false =>
   rw [h0,if_neg (by simp)] at hE;simp (maxSteps:=10^6)+contextual(disch:=try exact dqd)only[ev1,simprocAttr,Cb,Bg,Cc,results7,e0,e9,e10,e11,d1,Ar,hx',hC,ez,h0];exact IH (i+1) _ aF ⟨rfl,aE,hE,aJ,aJ,aJ,aJ,aJ⟩
 ·have d1:decide ((i:Int)<(l.length:Int))=false:=aQ
  have m6:i=l.length:=aA
  subst m6;rw [Ik] at hE;have gc:G9 l=0:=hE;have hV:=fun S tk k=>Dr S tk k l (Qa gc) aA;have hs:sysE l=if 24<(Bh l).length then 7 else 0:=by unfold sysE; rw [if_neg uj,gc]; rfl
  rw [hs];simp only [Ar,Aq] at hV;by_cases h24:24<(Bh l).length
  ·have d2:decide (((Bh l).length:Int) > 24)=true:=aD
   simp (maxSteps:=10^6)+contextual(disch:=try exact dqd)only[ev1,simprocAttr,Cb,Bg,Cc,results7,e0,e9,e10,e11,d1,Ar,hV,d2];rw [if_pos h24]
  ·have d2:decide (((Bh l).length:Int) > 24)=false:=aD
   simp (maxSteps:=10^6)+contextual(disch:=try exact dqd)only[ev1,simprocAttr,Cb,Bg,Cc,results7,e0,e9,e10,e11,d1,Ar,hV,d2];rw [if_neg h24]
theorem Gb {l:List RowT} (h:sysE l=0):fewC l/\l.length<=64/\(Bh l).length<=24/\G9 l=0:=by
 unfold sysE at h;split at h
 ·cases h
 ·split at h
  ·rename_i h1 h2; rw [h] at h2; cases h2
  ·rename_i h1 h2;split at h
   ·cases h
   ·have h0:G9 l=0:=cA
    exact ⟨Qa h0,aA,aA,h0⟩
theorem Ao2 (l:List RowT) (h:sysE l=0):cL prog 11 [Ar l] S tk k=some (Aq (Bh l),S,tk,k):=by
 obtain ⟨h1,h2,-,-⟩:=Gb h;have hC:=fun S tk k=>Ge S tk k l (fun r hr=>by have:=h1 r hr; omega);have hV:=fun S tk k=>Pu S tk k l h1 h2;rw [h] at hC;have d0:((0:Int) != 0)=false:=rfl;simp only [Ar,Aq] at hC hV;refine opP func11 ntmps11 ?_;simp (maxSteps:=10^6)+contextual(disch:=try exact dqd)only[ev1,simprocAttr,Cb,Bg,Cc,results11,Ar,Aq,hC,hV,d0]
theorem Adj (l:List RowT) (h:sysE l=0):cL prog 10 [Ar l] S tk k=some (Aq (Bh l),S,tk,k):=by
 obtain ⟨h1,h2,-,-⟩:=Gb h;have hC:=fun S tk k=>Ew S tk k l (fun r hr=>by have:=h1 r hr; omega);have hV:=fun S tk k=>Dr S tk k l h1 h2;rw [h] at hC;have d0:((0:Int) != 0)=false:=rfl;simp only [Ar,Aq] at hC hV;refine opP func10 ntmps10 ?_;simp (maxSteps:=10^6)+contextual(disch:=try exact dqd)only[ev1,simprocAttr,Cb,Bg,Cc,results10,Ar,Aq,hC,hV,d0]
end
end
section
open Go Tryz
def Tt (i:Nat):List ByteArray->ByteArray->Int
 | [],_=>-1
 | x :: l,s=>if sEq x s then i else Tt (i+1) l s
theorem Aqw (a b:ByteArray):sEq a b=sEq b a:=by
 unfold sEq; rw [S9,beq_iff_eq,beq_iff_eq]; exact ⟨Eq.symm,Eq.symm⟩
section
variable (S:List Ent) (tk:List Nat) (k:Nat)
theorem Ado (l:List ByteArray) (s:ByteArray) (hlen:l.length<=1000000):cL prog 134 [.frz (l.map strC) .unk,.str s] S tk k=some (.int (Tt 0 l s),S,tk,k):=by
 refine opP func134 ntmps134 (hp3:=rfl) ?_;simp (maxSteps:=10^6)+contextual(disch:=try exact dqd)only[ev1,simprocAttr,Cb,Bg,Cc,results134];refine loop1 (P:=prog) (fun x st=>st.T.length=19/\(x<=l.length)/\(Tt 0 l s=Tt x (l.drop x) s)/\getT st.T 0=.frz (l.map strC) .unk/\getT st.T 1=.str s/\getT st.T 7=.int (l.length:Nat)/\getT st.T 8=.int (x:Nat)/\st.S=[]) (fun x=>l.length - x) (fun x=>.int (Tt 0 l s)) (0) ?_ ?_;case refine_2=>exact ⟨rfl,Cl _,rfl,rfl,rfl,rfl,rfl,rfl⟩
 rintro i ⟨T,S',tk',n'⟩ ⟨hl,hi,hA,e0,e1,e7,e8,eS⟩ IH;subst eS;obtain ⟨g,hg,hT⟩:=Au hl;rw [hg] at e0 e1 e7 e8;subst hT;clear hg hl;by_cases la:i<l.length
 ·have d1:decide ((i:Int)<(l.length:Int))=true:=bS
  obtain ⟨x,hx⟩:=Af la;have hx':nth (l.map strC) i=some (strC x):=dL
  have hw:Ca.wrap ((i:Int)+1)=((i+1:Nat):Int):=aK
  rw [A1 hx] at hA;simp only [Tt] at hA;have hcm:=Aqw s x;cases hq:sEq x s <;> rw [hq] at hA hcm
  ·simp (maxSteps:=10^6)+contextual(disch:=try exact dqd)only[ev1,simprocAttr,Cb,Bg,Cc,results134,e0,e1,e7,e8,d1,hx',hw,strC,hq,hcm];exact IH (i+1) _ aF ⟨rfl,aE,by simpa using hA,rfl,rfl,rfl,rfl,rfl⟩
  ·simp (maxSteps:=10^6)+contextual(disch:=try exact dqd)only[ev1,simprocAttr,Cb,Bg,Cc,results134,e0,e1,e7,e8,d1,hx',hw,strC,hq,hcm];simpa using hA.symm
 ·have d1:decide ((i:Int)<(l.length:Int))=false:=bS
  have he:i=l.length:=aA
  simp (maxSteps:=10^6)+contextual(disch:=try exact dqd)only[ev1,simprocAttr,Cb,Bg,Cc,results134,e0,e1,e7,e8,d1];rw [hA,he,Ik]; rfl
theorem Np (l:List ByteArray) (s:ByteArray) (hlen:l.length<=1000000):cL prog 107 [.frz (l.map strC) .unk,.str s] S tk k=some (.int (Tt 0 l s),S,tk,k):=by
 have h:=fun S tk k=>Ado S tk k l s hlen;refine opP func107 ntmps107 (hp3:=rfl) ?_;simp (maxSteps:=10^6)+contextual(disch:=try exact dqd)only[ev1,simprocAttr,Cb,Bg,Cc,results107,h]
end
theorem Vl:∀ {l:List ByteArray} {s:ByteArray} {i:Nat},s ∈ l->∃ j,j<l.length/\Tt i l s=((i+j:Nat):Int)/\nth l j=some s
 | [],_,_,h=>aN
 | x :: l,s,i,h=>by
  by_cases hx:sEq x s=true
  ·refine ⟨0,by simp,?_,?_⟩
   ·unfold Tt; rw [if_pos hx]; rfl
   ·have:x=s:=by rw [N3] at hx; simpa using hx
    rw [this]; rfl
  ·rcases Cv.1 h with rfl|h
   ·exact absurd (by rw [N3]; simp) hx
   ·obtain ⟨j,h1,h2,h3⟩:=Vl (i:=i+1) h;refine ⟨j+1,aU,?_,h3⟩;unfold Tt; rw [if_neg hx,h2]; congr 1; omega
def idxV (vars:List ByteArray) (s:ByteArray):Nat:=(Tt 0 vars s).toNat
theorem Kf {l:List ByteArray} {s:ByteArray} (h:s ∈ l):Tt 0 l s=((idxV l s:Nat):Int)/\idxV l s<l.length:=by
 obtain ⟨j,h1,h2,h3⟩:=Vl (i:=0) h;unfold idxV;rw [h2];exact ⟨aA,aA⟩
def setC (F:Fld) (u z:Q) (ix:Nat) (row:List Q) (n:Int):List Q × Bool :=
 (put (put row (2*ix) (F.times u (F.whole n).1).1) (2*ix+1) (F.minus z (F.times u (F.whole n).1).1).1,((F.whole n).2 || (F.times u (F.whole n).1).2) || (F.minus z (F.times u (F.whole n).1).1).2)
def coefsC (F:Fld) (u z:Q) (vars:List ByteArray):List (ByteArray × Int)->List Q->List Q × Bool
 | [],row=>(row,false)
 | c :: cs,row=>((coefsC F u z vars cs (setC F u z (idxV vars c.1) row c.2).1).1,(setC F u z (idxV vars c.1) row c.2).2 || (coefsC F u z vars cs (setC F u z (idxV vars c.1) row c.2).1).2)
def Kq (F:Fld) (real W k:Nat) (c r:Q):Q × Bool:=if k<real\/k=W - 1 then F.minus c r else (c,false)
def costL (F:Fld) (real W:Nat):Nat->List Q->List Q->List Q × Bool
 | k,c :: cs,r :: rs=>((Kq F real W k c r).1 :: (costL F real W (k+1) cs rs).1,(Kq F real W k c r).2 || (costL F real W (k+1) cs rs).2)
 | _,cs,_=>(cs,false)
def Lg (F:Fld) (flip:Bool):Q × Bool:=if flip=true then ((F.whole (-1)).1,(F.whole 1).2 || (F.whole (-1)).2) else F.whole 1
def Vy (F:Fld) (u z:Q) (n:Int):Q × Bool:=((F.minus z (F.times u (F.whole n).1).1).1,((F.whole n).2 || (F.times u (F.whole n).1).2) || (F.minus z (F.times u (F.whole n).1).1).2)
def Rc (eq:Bool) (row:List Q) (slack:Nat) (u:Q):List Q:=if eq=true then row else put row slack u
def Eg (r:RowT):Bool:=decide (0<r.2.1)
def rowF (F:Fld) (z:Q) (vars:List ByteArray) (real W i slack:Nat) (r:RowT):List Q × Bool :=
 let u:=Lg F (Eg r)
 let a:=coefsC F u.1 z vars r.1 (Cf W z)
 let y:=Vy F u.1 z r.2.1
 (put (put (Rc r.2.2 a.1 slack u.1) (real+i) (F.whole 1).1) (W - 1) y.1,((u.2 || a.2) || (F.whole 1).2) || y.2)
def begS (F:Fld) (z:Q) (vars:List ByteArray) (real W:Nat):List RowT->Nat->Nat->Tb->Tb
 | [],_,_,t=>t
 | r :: l,i,slack,t =>
  let a:=rowF F z vars real W i slack r
  let c:=costL F real W 0 t.cost a.1
  begS F z vars real W l (i+1) (if r.2.2=true then slack else slack+1) { t with rows:=t.rows++[a.1],cost:=c.1,basis:=t.basis++[real+i],flip:=t.flip++[Eg r],fl:=(t.fl || a.2) || c.2 }
def neqs:List RowT->Nat
 | []=>0
 | r :: l=>(if r.2.2=true then 0 else 1)+neqs l
def Bj (F:Fld) (l:List RowT) (vars:List ByteArray) (fl:Bool):Tb :=
 let z:=F.whole 0
 let real:=2*vars.length+neqs l
 let W:=real+l.length+1
 begS F z.1 vars real W l 0 (2*vars.length) { vars:=vars.length,real:=real,rows:=[],cost:=Cf W z.1,basis:=[],flip:=[],fl:=fl || z.2 }
end
section
open Go
def P9:Code->Nat
 | .seq a _=>P9 a
 | .region id _ _=>id
 | .block _ c=>P9 c
 | .loop c=>P9 c
 | .scope c=>P9 c
 | _=>0
def Mm (n:Nat):Code->List Nat->List Kont->Option (Code × List Kont)
 | .seq a b,lv,k=>match Mm n a lv (.seq b :: k) with|some r=>some r|none=>Mm n b lv k
 | .block id c,lv,k=>Mm n c lv (.block id :: k)
 | .scope c,lv,k=>Mm n c lv k
 | .cond _ a b,lv,k=>match Mm n a lv k with|some r=>some r|none=>Mm n b lv k
 | .loop c,lv,k=>if (P9 c == n)=true then some (.loop c,k) else match lv with
  | x :: lv=>Mm n c lv (.loop c x :: k)
  | []=>none
 | _,_,_=>none
def Amm (fn:Func) (n:Nat) (lv:List Nat):Option (Code × List Kont):=match fn.body with|some c=>Mm n c lv []|none=>none
section
variable [Globs] {P:Program} [Ext P] {fn:Func}
noncomputable def KA (P:Program) [Ext P] (fn:Func) (n:Nat) (lv:List Nat) (st:St):Option (AV × St):=match Amm fn n lv with|some (c,k)=>RK P fn c st k|none=>none
theorem W3 {n:Nat} {lv:List Nat} {c:Code} {k:List Kont} (h:Amm fn n lv=some (c,k)) {st:St} {fin:Option (AV × St)->Option Rs} {Φ:Rs->Prop} {t:Tag (c,k)} (hg:Gd fin Φ (KX P fn c st k t)):Gd fin Φ (KA P fn n lv st):=by unfold KA; rw [h]; exact hg
theorem Mo {n:Nat} {lv:List Nat} {c:Code} {k:List Kont} (h:Amm fn n lv=some (c,k)) {st:St} {fin:Option (AV × St)->Option Rs} {Φ:Rs->Prop} {t:Tag (c,k)} (hg:Gd fin Φ (KA P fn n lv st)):Gd fin Φ (KX P fn c st k t):=by unfold KA at hg; rw [h] at hg; exact hg
end
theorem Pf:∀ l:List RowT,neqs l<=l.length
 | []=>Ce _
 | r :: l=>by
  have:=Pf l;unfold neqs;split <;> simp only [Ch] <;> omega
theorem Qy {l:List RowT} {q:Nat} {r:RowT} (h:nth l q=some r):neqs (l.drop q)=(if r.2.2=true then 0 else 1)+neqs (l.drop (q+1)):=by
 rw [A1 h]; rfl
section
variable {P:Program} {t:TypeId} {x:AV} {S:List Ent} {n:Nat}
theorem Qs {a b c d e:Nat} : lit1 1 1 [(0,.sref a b c d e)]=some (.lit 1 [.sref a b c d e]):=rfl
theorem Aks (h:apT P t=some 1) (hx:leafOk x=true):apO P t (.frz [] .nilc) (.lit 1 [x]) S n=some (.sref S.length n 0 1 1,S++[⟨n,[x]⟩],n+1):=by
 have hl:litC 1 (.lit 1 [x])=some (1,[x]):=by simp [litC,hx]
 exact Ya1p
theorem Akr {c:Cap} (h:apT P t=some 1) (hx:leafOk x=true):apO P t (.frz [] .nilc) (.frz [[x]] c) S n=some (.sref S.length n 0 1 1,S++[⟨n,[x]⟩],n+1):=by
 have hl:litC 1 (.frz [[x]] c)=some (1,[x]):=by simp [litC,hx,Dk]
 exact Ya1p
theorem Af8 {id ep len:Nat} {cs:List AV} (h:apT P t=some 1) (hx:leafOk x=true) (hE:entAt S id ep=some cs) (hc:cs.length=len) (h0:0<len) (h1:len+1<=1048576):apO P t (.sref id ep 0 len 1) (.lit 1 [x]) S n=some (.sref id n 0 (len+1) 1,put S id ⟨n,cs++[x]⟩,n+1):=by
 have hl:litC 1 (.lit 1 [x])=some (1,[x]):=by simp [litC,hx]
 exact Ya1c
theorem Af7 {id ep len:Nat} {cs:List AV} {c:Cap} (h:apT P t=some 1) (hx:leafOk x=true) (hE:entAt S id ep=some cs) (hc:cs.length=len) (h0:0<len) (h1:len+1<=1048576):apO P t (.sref id ep 0 len 1) (.frz [[x]] c) S n=some (.sref id n 0 (len+1) 1,put S id ⟨n,cs++[x]⟩,n+1):=by
 have hl:litC 1 (.frz [[x]] c)=some (1,[x]):=by simp [litC,hx,Dk]
 exact Ya1c
end
structure BegC (S:List Ent) (l:List RowT) (vars:List ByteArray) (iq c W:Nat):Prop where
 hl:l.length<=1000
 gm:vars.length<=1000
 hv:∀ r ∈ l,∀ c ∈ r.1,c.1 ∈ vars
 hc:∀ r ∈ l,i64 r.2.1/\∀ c ∈ r.1,i64 c.2
 dq:fewC l
 m9:iq<S.length
 yj:c=2*vars.length+neqs l
 nv:W=c+l.length+1
theorem R4 {P:Program} {all:List Oper} {d:Option Tmp} {T:List AV} {S S':List Ent} (hL:loadsB all d=[]) (h2:S.length<=S'.length):reA P all d T S S'=some ():=Ahs hL h2 (fun q h=>aN)
def lcC (F:Fld) (z:Q) (ix:Nat) (cost:List Q) (n:Int):List Q × Bool :=
 (put (put cost (2*ix) (F.whole n).1) (2*ix+1) (F.minus z (F.whole n).1).1,(F.whole n).2 || (F.minus z (F.whole n).1).2)
def lcsC (F:Fld) (z:Q) (vars:List ByteArray):List (ByteArray × Int)->List Q->List Q × Bool
 | [],cost=>(cost,false)
 | c :: cs,cost=>((lcsC F z vars cs (lcC F z (idxV vars c.1) cost c.2).1).1,(lcC F z (idxV vars c.1) cost c.2).2 || (lcsC F z vars cs (lcC F z (idxV vars c.1) cost c.2).1).2)
def lessBs (F:Fld):List Nat->List (List Q)->List Q->List Q × Bool
 | b :: bs,r :: rs,cost=>((lessBs F bs rs (lessT F cost r b).1).1,(lessT F cost r b).2 || (lessBs F bs rs (lessT F cost r b).1).2)
 | _,_,cost=>(cost,false)
def Je (F:Fld) (t:Tb) (a:List (ByteArray × Int)) (vars:List ByteArray):Tb :=
 let t1:=settleF F t.rows.length 0 t
 let c1:=lcsC F (F.whole 0).1 vars a (Cf t1.cost.length (F.whole 0).1)
 let c2:=lessBs F t1.basis t1.rows c1.1
 { t1 with cost:=c2.1,fl:=((t1.fl || (F.whole 0).2) || c1.2) || c2.2 }
def Gt (F:Fld) (t:Tb) (n:Int):Q × Bool :=
 ((F.minus (F.whole n).1 (at_ q0 t.cost (t.cost.length - 1))).1,(F.whole n).2 || (F.minus (F.whole n).1 (at_ q0 t.cost (t.cost.length - 1))).2)
def L7 (t t':Tb):Prop:=t'.real=t.real/\t'.vars=t.vars/\t'.cost.length=t.cost.length/\t'.rows.length=t.rows.length
theorem L7.refl (t:Tb):L7 t t:=⟨rfl,rfl,rfl,rfl⟩
theorem L7.trans {a b c:Tb} (h:L7 a b) (h':L7 b c):L7 a c:=⟨h'.1.trans h.1,h'.2.1.trans h.2.1,h'.2.2.1.trans h.2.2.1,h'.2.2.2.trans h.2.2.2⟩
theorem Qo {F:Fld} {l m:List Q} {c:Nat} : (lessT F l m c).1.length=l.length:=by
 unfold lessT;split
 ·split
  ·rfl
  ·exact Ql
 ·rfl
theorem Lp {F:Fld} {row:List Q} {c i:Nat} : ∀ {l:List (List Q)} {k:Nat},(lessRows F row c i k l).1.length=l.length
 | [],_=>rfl
 | r :: l,k=>by simp only [lessRows,Ch,Lp]
theorem Ane {F:Fld} {t:Tb} {i c:Nat} : L7 t (Dm F t i c):=⟨rfl,rfl,Qo,by simp only [Dm,Lp,Aj]⟩
theorem P5 {F:Fld} : ∀ {K:Nat} {t t':Tb} {b:Bool},Gp F K t=some (b,t')->L7 t t'
 | 0,_,_,_,h=>by simp [Gp] at h
 | K+1,t,t',b,h=>by
  unfold Gp at h;split at h
  ·exact Ya2r
  ·split at h
   ·exact Ya2r
   ·split at h
    ·simp only [A8,Cg] at h; obtain ⟨-,rfl⟩:=h; exact ⟨rfl,rfl,rfl,rfl⟩
    ·have h2:=P5 h;have h3:∀ (u:Tb) (i c:Nat),L7 u (Dm F u i c):=fun u i c=>Ane;have h4:=(h3 _ _ _).trans h2;exact ⟨h4.1,h4.2.1,h4.2.2.1,h4.2.2.2⟩
theorem Zh {F:Fld} {real W:Nat} : ∀ {c r:List Q} {k:Nat},(costL F real W k c r).1.length=c.length
 | [],_,_=>by simp [costL]
 | a :: c,[],_=>rfl
 | a :: c,b :: r,k=>by simp only [costL,Ch,Zh]
theorem Ak0 {F:Fld} {z:Q} {vars:List ByteArray} {real W:Nat} : ∀ {l:List RowT} {i sl:Nat} {t:Tb},(begS F z vars real W l i sl t).real=t.real/\(begS F z vars real W l i sl t).vars=t.vars/\(begS F z vars real W l i sl t).cost.length=t.cost.length/\(begS F z vars real W l i sl t).rows.length=t.rows.length+l.length
 | [],_,_,_=>⟨rfl,rfl,rfl,rfl⟩
 | r :: l,i,sl,t=>by
  unfold begS;simp only;have h:=Ak0 (F:=F) (z:=z) (vars:=vars) (real:=real) (W:=W) (l:=l) (i:=i+1) (sl:=if r.2.2=true then sl else sl+1) (t:={ t with rows:=t.rows++[(rowF F z vars real W i sl r).1],cost:=(costL F real W 0 t.cost (rowF F z vars real W i sl r).1).1,basis:=t.basis++[real+i],flip:=t.flip++[Eg r],fl:=(t.fl || (rowF F z vars real W i sl r).2) || (costL F real W 0 t.cost (rowF F z vars real W i sl r).1).2 });simp only [Zh,Cm,Ch,Co] at h ⊢;exact ⟨h.1,h.2.1,h.2.2.1,aA⟩
theorem Ma {F:Fld} {l:List RowT} {vars:List ByteArray} {fl:Bool} : (Bj F l vars fl).real=2*vars.length+neqs l/\(Bj F l vars fl).vars=vars.length/\(Bj F l vars fl).cost.length=2*vars.length+neqs l+l.length+1/\(Bj F l vars fl).rows.length=l.length:=by
 unfold Bj;have h:=Ak0 (F:=F) (z:=(F.whole 0).1) (vars:=vars) (real:=2*vars.length+neqs l) (W:=2*vars.length+neqs l+l.length+1) (l:=l) (i:=0) (sl:=2*vars.length) (t:={ vars:=vars.length,real:=2*vars.length+neqs l,rows:=[],cost:=Cf (2*vars.length+neqs l+l.length+1) (F.whole 0).1,basis:=[],flip:=[],fl:=fl || (F.whole 0).2 });simp only [I1,Co,El] at h ⊢;exact h
def lsC:Option Q->List AV
 | none=>[.prim (.bool false),.frz [] .nilc,.prim (.bool false),.frz [] .nilc]
 | some q=>ceW q
def ansC (f:Bool) (pt nu:List Q) (c1 c2:Cap) (least:Option Q) (bd:Bool):List AV:=[.prim (.bool f),.frz (pt.map ceW) c1,.frz (nu.map ceW) c2]++lsC least++[.prim (.bool bd)]
def ans0:List AV:=[.prim (.bool false),.frz [] .nilc,.frz [] .nilc,.prim (.bool false),.frz [] .nilc,.prim (.bool false),.frz [] .nilc,.prim (.bool false)]
structure Ans where
 f:Bool
 pt:List Q
 nu:List Q
 least:Option (Q × Bool)
def H8 (F:Fld) (K:Nat) (l:List RowT) (vars:List ByteArray) (fl:Bool):Option (Ans × Bool) :=
 match Gp F K (Bj F l vars fl) with
 | none=>none
 | some (_,t)=>if (F.stop && t.fl)=true then some (⟨false,[],[],none⟩,false) else
  if Gw t=true then some (⟨true,(Bq F t).1.map F.rat,[],none⟩,!(F.stop && (t.fl || (Bq F t).2)))
  else some (⟨false,[],(Hd F t).1.map F.rat,none⟩,!(F.stop && (t.fl || (Hd F t).2)))
def Jh (F:Fld) (K:Nat) (l:List RowT) (vars:List ByteArray) (fl:Bool) (cs:List (ByteArray × Int)) (n:Int):Option (Ans × Bool) :=
 match Gp F K (Bj F l vars fl) with
 | none=>none
 | some (_,t)=>if (F.stop && t.fl)=true then some (⟨false,[],[],none⟩,false) else
  if Gw t=true then
   match Gp F K (Je F { t with fl:=t.fl || (Bq F t).2 } cs vars) with
   | none=>none
   | some (true,u)=>some (⟨true,(Bq F t).1.map F.rat,[],some (F.rat (Gt F u n).1,true)⟩,!(F.stop && (u.fl || (Gt F u n).2)))
   | some (false,u)=>some (⟨true,(Bq F t).1.map F.rat,[],some ((0,1),false)⟩,!(F.stop && u.fl))
  else some (⟨false,[],(Hd F t).1.map F.rat,none⟩,!(F.stop && (t.fl || (Hd F t).2)))
end
section
open Go Tryz
theorem Jr {l:List RowT} : ∀ r ∈ l,∀ c ∈ r.1,c.1 ∈ Bh l:=fun r hr c hc=>by
 refine ((M5 (Di l)).2.1 c.1).2 ?_;unfold Di;refine iG.2 ⟨r.1.map (·.1),Ft.2 ⟨r,hr,rfl⟩,Ft.2 ⟨c,hc,rfl⟩⟩
def Adw (l:List RowT) (a:Ans):Prop:=∀ S tk k,cL prog 31 [Ar l,Aq (Bh l),.prim (.pointer none)] S tk k=some (.agg (ansC a.f a.pt a.nu .unk .unk (some (0,0)) false),S,tk,k)
section
variable (S:List Ent) (tk:List Nat) (k:Nat)
theorem Hx (l:List RowT) (c8:∀ r ∈ l,r.1.length<=1048576) (a:Ans) (hA:sysE l=0->Adw l a) :
  cL prog 13 [Ar l] S tk k=some (.tup [.bool (if sysE l=0 then a.f else false),.int (sysE l)],S,tk,k):=by
 have hC:=fun S tk k=>Ew S tk k l c8;by_cases h0:sysE l=0
 ·obtain ⟨h1,h2,h3,-⟩:=Gb h0;have hV:=fun S tk k=>Dr S tk k l h1 h2;have hA:=hA h0;unfold Adw at hA;exact Yax
 ·exact Ya0f
theorem Xf (l:List RowT) (c8:∀ r ∈ l,r.1.length<=1048576) (a:Ans) (h0:sysE l=0) (hA:Adw l a) :
  cL prog 22 [Ar l] S tk k=some (.tup [.frz (a.pt.map ceW) .unk,.bool a.f],S,tk,k):=by
 have hC:=fun S tk k=>Ew S tk k l c8;obtain ⟨h1,h2,h3,-⟩:=Gb h0;have hV:=fun S tk k=>Dr S tk k l h1 h2;have c1:(sysE l != 0)=false:=aW
 unfold Adw at hA;simp only [ansC,lsC,ceW,Ar,Aq,Cn,Cq] at hA;simp only [Ar,Aq] at hC hV;refine opP func22 ntmps22 (hp3:=rfl) ?_;simp (maxSteps:=10^6)+contextual(disch:=try exact dqd)only[ev1,simprocAttr,Cb,Bg,Cc,results22,Ar,Aq,hC,hV,hA,c1];rfl
theorem Wu (l:List RowT) (c8:∀ r ∈ l,r.1.length<=1048576) (a:Ans) (h0:sysE l=0) (hA:Adw l a) (ms:List (List AV)) (hI:∀ S tk k,cL prog 49 [.frz (a.nu.map ceW) .unk] S tk k=some (.frz ms .unk,S,tk,k)) :
  cL prog 21 [Ar l] S tk k=some (.tup [.frz (if a.f=true then [] else ms) .unk,.bool (!a.f)],S,tk,k):=by
 have hC:=fun S tk k=>Ew S tk k l c8;obtain ⟨h1,h2,h3,-⟩:=Gb h0;have hV:=fun S tk k=>Dr S tk k l h1 h2;have c1:(sysE l != 0)=false:=aW
 unfold Adw at hA;simp only [ansC,lsC,ceW,digA,Ar,Aq,Cn,Cq] at hA;simp only [Ar,Aq] at hC hV;cases hf:a.f with
 | true =>
  rw [hf] at hA;rw [if_pos rfl];refine opP func21 ntmps21 (hp3:=rfl) ?_;simp (maxSteps:=10^6)+contextual(disch:=try exact dqd)only[ev1,simprocAttr,Cb,Bg,Cc,results21,Ar,Aq,hC,hV,hA,c1]
 | false =>
  rw [hf] at hA;rw [if_neg F6];refine opP func21 ntmps21 (hp3:=rfl) ?_;simp (maxSteps:=10^6)+contextual(disch:=try exact dqd)only[ev1,simprocAttr,Cb,Bg,Cc,results21,Ar,Aq,hC,hV,hA,c1,hI]
end
end
section
open Go Tryz
open Go.Proofs.Tryz renaming func112->ga2,ntmps112->ga3,results112->ga4
open Go.Proofs.YtcjffhadclngmaaGreat renaming ceQ->ga0,Ay->ga1,puQ->ga5,Bs->ga6,ovQ->ga7,A2->ga8,tkQ->ga9
set_option maxRecDepth 100000
namespace QQ
abbrev ua0:Nat:=95
abbrev ua1:Nat:=112
abbrev ua2:Nat:=2
abbrev ua3:Nat:=1
abbrev ua4:Nat:=4
end QQ
set_option maxHeartbeats 4000000
set_option maxRecDepth 100000
namespace QQ
def Arf (S:List Ent) (tk:List Nat) (ia ea iq eq:Nat) (l:List Q) (fl:Bool) (r:Rs):Prop :=
 ∃ S' k',r=(.tup [],S',tk,k')/\S'.length=S.length/\entAt S' ia ea=some (flat ceQ l)/\FAq S' iq eq fl/\∀ j,j≠ia->j≠iq->nth S' j=nth S j
end QQ
section
variable (S:List Ent) (tk:List Nat) (k iq eq:Nat) (fl:Bool)
abbrev Aw0 (p:Prop:=by exact ∀ (S:List Ent)(tk:List Nat)(k iq eq:Nat)(fl:Bool)(it et ia ea ij ej W c:Nat)(rest:List AV)(a row:List Q)(ht:entAt S it et=some (.ifc ua0 (rcvQ iq eq) :: rest))(hq:FAq S iq eq fl)(ha:entAt S ia ea=some (flat ga0 a))(hr:entAt S ij ej=some (flat ga0 row))(la:a.length=W)(lr:row.length=W)(hc:c<W)(hWb:W<=1000000)(oa:okL qF a)(orr:okL qF row)(ne1:ia≠ij)(ne2:ia≠it)(ne3:ia≠iq)(ne4:iq≠it)(ne5:iq≠ij),∃ r,cL prog ua1 [.ref it et 0,.sref ia ea 0 W ua2,.sref ij ej 0 W ua2,.int c] S tk k=some r/\Arf S tk ia ea iq eq (lessT qF a row c).1 (fl || (lessT qF a row c).2) r):=p
theorem Ma0 {p:Prop} (h:p:=by
 intro S tk k iq eq fl it et ia ea ij ej W c rest a row ht hq ha hr la lr hc hWb oa orr ne1 ne2 ne3 ne4 ne5;obtain ⟨Φ,hΦ⟩:∃ Φ,Φ=Arf S tk ia ea iq eq (lessT qF a row c).1 (fl || (lessT qF a row c).2):=⟨_,rfl⟩;rw [<- hΦ];obtain ⟨b,hb⟩:=Af (show c<a.length by omega);have ob:qF.ok b:=oa b (by rw [Ag] at hb; exact I8 hb);have sb:=Ap ga1 hb;have hlt:lessT qF a row c=if sgn b=0 then (a,false) else lessL qF b a row:=by unfold lessT; rw [hb]
 have hs:=Adh S tk k iq eq fl b ob hq;refine opG ga2 ga3 ?_;by_cases h0:sgn b=0
 ·have d1:(sgn b == 0)=true:=aW
  simp (maxSteps:=10^6)+contextual(disch:=try exact dqd)only[evg1,simprocAttr,Cb,Bg,Cc,ga4,ht,ha,hc,sb,hs,d1,Eh,xfs,ga5];rw [hlt,if_pos h0] at hΦ;rw [hΦ];exact ⟨S,_,rfl,rfl,ha,by rw [Fk]; exact hq,fun j _ _=>rfl⟩
 have d1:(sgn b == 0)=false:=aW
 rw [hlt,if_neg h0] at hΦ;simp (maxSteps:=10^6)+contextual(disch:=try exact dqd)only[evg1,simprocAttr,Cb,Bg,Cc,ga4,ht,ha,hc,sb,hs,d1,Eh,xfs,ga5,ga1,ga6,ga7];refine Dp (P:=prog) (fun x st=>st.T.length=70/\(lessL qF b a row=(x.2.2.1++(lessL qF b x.2.2.2.1 x.2.2.2.2.1).1,x.2.2.2.2.2 || (lessL qF b x.2.2.2.1 x.2.2.2.2.1).2))/\(x.2.2.1.length+x.2.2.2.1.length=W)/\(x.2.2.2.1.length=x.2.2.2.2.1.length)/\(∃ pr,row=pr++x.2.2.2.2.1/\pr.length=x.2.2.1.length)/\(x.1.length=S.length)/\(entAt x.1 ia ea=some (flat ga0 (x.2.2.1++x.2.2.2.1)))/\(FAq x.1 iq eq (fl || x.2.2.2.2.2))/\(∀ j,j≠ia->j≠iq->nth x.1 j=nth S j)/\(okL qF x.2.2.2.1)/\(okL qF x.2.2.2.2.1)/\getT st.T 0=.ref it et 0/\getT st.T 1=.sref ia ea 0 W ua2/\getT st.T 2=.sref ij ej 0 W ua2/\getT st.T 8=.ref S.length (k+ua3) 0/\getT st.T 27=.int (W:Nat)/\getT st.T 28=.int (x.2.2.1.length:Nat)/\st.S=x.1++[⟨k+ua3,ga0 b⟩]/\st.tk=tk/\st.n=x.2.1) (fun x=>x.2.2.2.2.1.length) (S,(k+ua3+1),([]:List Q),a,row,false) ?_ ?_;case refine_2=>exact ⟨rfl,by simp,bS,la.trans lr.symm,⟨[],rfl,rfl⟩,rfl,ha,by rw [Fk]; exact hq,fun j _ _=>rfl,oa,orr,rfl,rfl,rfl,rfl,rfl,rfl,rfl,rfl,rfl⟩
 rintro ⟨S1,n1,p,u,rs,fp⟩ ⟨T,S',tk',n'⟩ ⟨hl,hR,hW,hu,az,b8,he,hf,hj,ou,ors,e0,e1,e2,e8,e27,e28,eS,eT,eN⟩ IH;simp only at hR hW hu az b8 he hf hj ou ors e0 e1 e2 e8 e27 e28 eS eT eN;subst eS eT eN;obtain ⟨g,hg,hT⟩:=Au hl;rw [hg] at e0 e1 e2 e8 e27 e28;subst hT;clear hg hl;by_cases dj:p.length<W
 ·have c1:decide ((p.length:Int)<(W:Int))=true:=bW
  obtain ⟨a0,u,rfl⟩:∃ a0 u',u=a0 :: u':=by
   cases u with
   | nil=>simp at hW; omega
   | cons x u=>exact ⟨x,u,rfl⟩
  obtain ⟨r0,rs,rfl⟩:∃ r0 rs',rs=r0 :: rs':=by
   cases rs with
   | nil=>simp at hu
   | cons x u=>exact ⟨x,u,rfl⟩
  obtain ⟨pr,j6,r9⟩:=az;have oa0:=ou a0 (by simp);have or0:=ors r0 (by simp);have yk:nth row p.length=some r0:=by rw [j6,<- r9]; exact Ej
  have cg:=Ap ga1 yk;have ui:=Ap (ce:=ga0) ga1 (Ej (p:=p) (u:=u) (x:=a0));obtain ⟨E,hE⟩:∃ E:Ent,E=⟨k+ua3,ga0 b⟩:=⟨_,rfl⟩;have hbT:entAt (S1++[E]) S.length (k+ua3)=some (ga0 b):=by rw [hE]; exact Am b8
  rw [<- hE];have cj:entAt S1 it et=some (.ifc ua0 (rcvQ iq eq) :: rest):=by rw [Aa (hj it ne2.symm ne4.symm)]; exact ht
  have bz:entAt S1 ij ej=some (flat ga0 row):=by rw [Aa (hj ij ne1.symm ne5.symm)]; exact hr
  have htT:entAt (S1++[E]) it et=some (.ifc ua0 (rcvQ iq eq) :: rest):=Ad cj;have hrT:entAt (S1++[E]) ij ej=some (flat ga0 row):=Ad bz;have heT:entAt (S1++[E]) ia ea=some (flat ga0 (p++a0 :: u)):=Ad he;have hfT:=hf.app (L:=[E]);have fh:=Adh (S1++[E]) tk' n' iq eq (fl || fp) r0 or0 hfT;have b7:=Aw he;have vj:rs.length<(r0 :: rs).length:=by simp
  have hw:Ca.wrap ((p.length:Int)+1)=(((p++[a0]).length:Nat):Int):=bI
  by_cases hz:sgn r0=0
  ·have c2:(sgn r0 != 0)=false:=cK
   simp (maxSteps:=10^6)+contextual(disch:=try exact dqd)only[evg1,simprocAttr,Cb,Bg,Cc,ga4,e0,e1,e2,e8,e27,e28,c1,c2,hw,htT,hrT,cg,dj,fh,Eh,xfs,ga5];have aj:Lc qF b a0 r0=(a0,false):=by unfold Lc; rw [if_pos hz]
   exact IH (S1,n'+ua3,p++[a0],u,rs,fp) _ aF ⟨rfl,by rw [hR]; simp only [lessL,aj,Fa,Cn,Cq,Oi],by show (p++[a0]).length+u.length=W; simp only [Cm,Ch,Co] at hW ⊢; omega,eG,⟨pr++[r0],by rw [j6]; simp,by simp [r9]⟩,b8,gE,hf,hj,fun q hq=>ou q bN,fun q hq=>ors q bN,aG,aG,aG,aG,aG,aG,by simp only [hE],rfl,rfl⟩
  ·have c2:(sgn r0 != 0)=true:=cK
   obtain ⟨x,hx⟩:∃ x,x=qF.times b r0:=⟨_,rfl⟩;obtain ⟨y,hy⟩:∃ y,y=qF.minus a0 x.1:=⟨_,rfl⟩;have wi:Ca.wrap ((p.length:Int)+1)=(((p++[y.1]).length:Nat):Int):=bI
   have ox:qF.ok x.1:=by rw [hx]; exact Dj.times _ _ ob or0
   have oy:qF.ok y.1:=by rw [hy]; exact Dj.minus _ _ oa0 ox
   have ee:=Ah6 (S1++[E]) tk' (n'+ua3) iq eq (fl || fp) b r0 ob or0 hfT;have hg1:=Ek (c:=x.2) hfT;rw [<- hx] at ee;rw [Hj hf] at ee hg1;obtain ⟨S2,bp⟩:∃ S2,S2=flS S1 iq eq x.2:=⟨_,rfl⟩;rw [<- bp] at ee hg1;have dp:FAq S2 iq eq ((fl || fp) || x.2):=by rw [bp]; exact hf.fS
   have ie:=L2 (S2++[E]) tk' (n'+ua3+ua4) iq eq ((fl || fp) || x.2) a0 x.1 oa0 ox (dp.app (L:=[E]));have hg2:=Ek (c:=y.2) (dp.app (L:=[E]));rw [<- hy] at ie;rw [Hj dp] at ie hg2;obtain ⟨S3,dn⟩:∃ S3,S3=flS S2 iq eq y.2:=⟨_,rfl⟩;rw [<- dn] at ie hg2;have de:FAq S3 iq eq (((fl || fp) || x.2) || y.2):=by rw [dn]; exact dp.fS
   have dz:S3.length=S.length:=by rw [dn,Bm,bp,Bm,b8]
   have cu:∀ j,j≠iq->nth S3 j=nth S1 j:=fun j hj=>by rw [dn,ga8 hj,bp,ga8 hj]
   have mi:entAt S3 ia ea=some (flat ga0 (p++a0 :: u)):=by rw [Aa (cu ia ne3)]; exact he
   have a2y:entAt (S3++[E]) ia ea=some (flat ga0 (p++a0 :: u)):=Ad mi;have ho:=A5 (ce:=ga0) ga1 (l:=p++a0 :: u) (k:=p.length) (q':=y.1) (by simp);rw [Ev] at ho;have hp3:=fun x=>B4 (L:=[E]) (x:=x) (Aw mi);have io:∀ x,Ib (S1++[E]).length (put S3 ia x++[E])=put S3 ia x++[E]:=fun x=>C6 (by simp [Ai,dz,b8]);simp (maxSteps:=10^6)+contextual(disch:=try exact dqd)only[evg1,simprocAttr,Cb,Bg,Cc,ga4,e0,e1,e2,e8,e27,e28,c1,c2,io,wi,htT,hrT,heT,hbT,cg,ui,dj,fh,ee,ie,hg1,hg2,a2y,ho,hp3,Eh,xfs,ga5,ga1,ga6,ga9];have aj:Lc qF b a0 r0=(y.1,x.2 || y.2):=by unfold Lc; rw [if_neg hz,hy,hx]
   exact IH (put S3 ia ⟨ea,flat ga0 (p++y.1 :: u)⟩,n'+ua3+ua4+ua4,p++[y.1],u,rs,Cj fp (Cj x.2 y.2)) _ aF ⟨rfl,by rw [hR]; simp only [lessL,aj,Fa,Cn,Cq,Fo],by show (p++[y.1]).length+u.length=W; simp only [Cm,Ch,Co] at hW ⊢; omega,eG,⟨pr++[r0],by rw [j6]; simp,by simp [r9]⟩,Ai.trans dz,by rw [Ae (Aw mi)]; simp,by have:=de.put (x:=⟨ea,flat ga0 (p++y.1 :: u)⟩) ne3; simpa only [Fo] using this,fun j h1 h2=>by rw [Ab (Ih h1),cu j h2]; exact hj j h1 h2,fun q hq=>ou q bN,fun q hq=>ors q bN,aG,aG,aG,aG,aG,aG,by simp only [hE],rfl,rfl⟩
 ·have c1:decide ((p.length:Int)<(W:Int))=false:=bW
  have hu0:u=[]:=C4.1 aA;subst hu0;simp (maxSteps:=10^6)+contextual(disch:=try exact dqd)only[evg1,simprocAttr,Cb,Bg,Cc,ga4,e0,e1,e2,e8,e27,e28,c1];rw [hΦ,Lf b8];simp only [lessL] at hR;rw [hR];exact ⟨S1,n',rfl,b8,he,by rw [Fk]; exact hf,hj⟩):p:=h
namespace QQ
theorem Atn:Aw0:=Ma0
end QQ
end
end
section
open Go
open Go.Proofs.YtcjffhadclngmaaGreat renaming ceQ->ga0
set_option maxRecDepth 100000
namespace QQ
structure A7 (S:List Ent) (iq eq:Nat) (I:TI) (t:Tb) (c:Cap):Prop where
 top:entAt S I.it I.et=some [.ifc 95 (rcvQ iq eq),intA t.vars,intA t.real,di I.ir I.er 1 t.rows.length,.sref I.ic I.ec 0 t.cost.length 2,di I.ib I.eb 1 t.rows.length,.frz (t.flip.map De) c]
 nids:I.ids.length=t.rows.length
 rowsE:t.rows≠[]->entAt S I.ir I.er=some (I.ids.map (da t.cost.length 2))
 rowE:∀ i p r,nth I.ids i=some p->nth t.rows i=some r->entAt S p.1 p.2=some (flat ceQ r)
 rowW:∀ r ∈ t.rows,r.length=t.cost.length
 costE:entAt S I.ic I.ec=some (flat ceQ t.cost)
 basisE:t.rows≠[]->entAt S I.ib I.eb=some (t.basis.map intA)
 nb:t.basis.length=t.rows.length
 nf:t.flip.length=t.rows.length
 fa:FAq S iq eq t.fl
 ap:Apart I iq
 okr:∀ r ∈ t.rows,okL qF r
 okc:okL qF t.cost
 bigW:t.cost.length<=1000000
 bigM:t.rows.length<=1000000
 real:t.real<t.cost.length
 bB:∀ b ∈ t.basis,b<t.cost.length
end QQ
section
variable {S S':List Ent} {iq eq:Nat} {I:TI} {t:Tb} {c:Cap}
abbrev Aw1 (p:Prop:=by exact ∀ {S S':List Ent}{iq eq:Nat}{I:TI}{t:Tb}{c:Cap}(h:A7 S iq eq I t c){i:Nat}{p:Nat × Nat}{r0 r':List Q}{fl':Bool}(hp:nth I.ids i=some p)(hr:nth t.rows i=some r0)(hl:r'.length=t.cost.length)(ho:okL qF r')(hS:∀ j,j≠p.1->j≠iq->nth S' j=nth S j)(he:entAt S' p.1 p.2=some (flat ga0 r'))(hf:FAq S' iq eq fl'),A7 S' iq eq I { t with rows:=put t.rows i r',fl:=fl' } c):=p
theorem Ma1 {p:Prop} (h:p:=by
 intro h i p r0 r' fl' hp hr hl ho hS he hf;have b7:i<t.rows.length:=Br hr;have mj:=h.ap.row p (Ak hp);have key:∀ j e,j≠p.1->j≠iq->entAt S' j e=entAt S j e:=fun j e h1 h2=>Aa (hS j h1 h2);have hne:put t.rows i r'≠[]->t.rows≠[]:=fun hn h0=>hn (Anf.2 h0);refine ⟨?_,by rw [Aj]; exact h.nids,fun hn=>?_,fun j q r hq ae=>?_,fun r ae=>?_,?_,fun hn=>?_,Za64,by rw [Aj]; exact h.nf,hf,h.ap,fun r ae=>?_,h.okc,h.bigW,by rw [Aj]; exact h.bigM,h.real,h.bB⟩
 ·rw [key _ _ mj.1.symm h.ap.qt.symm,Aj]; exact h.top
 ·rw [key _ _ mj.2.1.symm h.ap.qr.symm]; exact h.rowsE (hne hn)
 ·rw [Kt b7] at ae;by_cases e:j=i
  ·exact Ya1t
  ·rw [if_neg e] at ae;have hq2:=h.ap.row q (Ak hq);rw [key _ _ (h.ap.rows j i q p hq hp e) hq2.2.2.2.2];exact Ya2p
 ·exact Ya24
 ·rw [key _ _ mj.2.2.1.symm h.ap.qc.symm]; exact h.costE
 ·rw [key _ _ mj.2.2.2.1.symm h.ap.qb.symm]; exact h.basisE (hne hn)
 ·rcases Bk ae with rfl|ae
  ·exact ho
  ·exact h.okr r ae):p:=h
namespace QQ
theorem A7.row:Aw1:=fun {S S' iq eq I t c}=>Ma1
end QQ
abbrev Aw2 (p:Prop:=by exact ∀ {S S':List Ent}{iq eq:Nat}{I:TI}{t:Tb}{c:Cap}(h:A7 S iq eq I t c){k':List Q}{fl':Bool}(hl:k'.length=t.cost.length)(ho:okL qF k')(hS:∀ j,j≠I.ic->j≠iq->nth S' j=nth S j)(he:entAt S' I.ic I.ec=some (flat ga0 k'))(hf:FAq S' iq eq fl'),A7 S' iq eq I { t with cost:=k',fl:=fl' } c):=p
theorem Ma2 {p:Prop} (h:p:=by
 intro h k' fl' hl ho hS he hf;have key:∀ j e,j≠I.ic->j≠iq->entAt S' j e=entAt S j e:=fun j e h1 h2=>Aa (hS j h1 h2);refine ⟨?_,h.nids,fun hn=>?_,fun j q r hq ae=>?_,fun r ae=>by rw [hl]; exact h.rowW r ae,he,fun hn=>?_,h.nb,h.nf,hf,h.ap,h.okr,ho,by rw [hl]; exact h.bigW,h.bigM,by rw [hl]; exact h.real,fun b hb=>by rw [hl]; exact h.bB b hb⟩
 ·rw [key _ _ h.ap.tc h.ap.qt.symm,hl]; exact h.top
 ·rw [key _ _ h.ap.rc h.ap.qr.symm,hl]; exact h.rowsE hn
 ·have hq2:=h.ap.row q (Ak hq);rw [key _ _ hq2.2.2.1 hq2.2.2.2.2];exact Ya2p
 ·rw [key _ _ h.ap.cb.symm h.ap.qb.symm]; exact h.basisE hn):p:=h
namespace QQ
theorem A7.setCost:Aw2:=fun {S S' iq eq I t c}=>Ma2
end QQ
abbrev Aw3 (p:Prop:=by exact ∀ {S:List Ent}{iq eq:Nat}{I:TI}{t:Tb}{c:Cap}(h:A7 S iq eq I t c){i b:Nat}(gn:t.rows≠[])(hb:b<t.cost.length),A7 (put S I.ib ⟨I.eb,(put t.basis i b).map intA⟩) iq eq I { t with basis:=put t.basis i b } c):=p
theorem Ma3 {p:Prop} (h:p:=by
 intro h i b gn hb;have b7:=Aw (h.basisE gn);have key:∀ j e,j≠I.ib->entAt (put S I.ib ⟨I.eb,(put t.basis i b).map intA⟩) j e=entAt S j e:=fun j e h1=>Ah (Ih h1);refine ⟨?_,h.nids,fun hn=>?_,fun j q r hq ae=>?_,h.rowW,?_,fun hn=>Ae b7,Za64,h.nf,h.fa.put h.ap.qb.symm,h.ap,h.okr,h.okc,h.bigW,h.bigM,h.real,fun x hx=>?_⟩
 ·rw [key _ _ h.ap.tb]; exact h.top
 ·rw [key _ _ h.ap.rb]; exact h.rowsE hn
 ·have hq2:=h.ap.row q (Ak hq);rw [key _ _ hq2.2.2.2.1];exact Ya2p
 ·rw [key _ _ h.ap.cb]; exact h.costE
 ·rcases Bk hx with rfl|hx
  ·exact hb
  ·exact h.bB x hx):p:=h
namespace QQ
theorem A7.setBasis:Aw3:=fun {S iq eq I t c}=>Ma3
end QQ
abbrev Aw4 (p:Prop:=by exact ∀ {S S':List Ent}{iq eq:Nat}{I:TI}{t:Tb}{c:Cap}(h:A7 S iq eq I t c){fl':Bool}(hS:∀ j,j≠iq->nth S' j=nth S j)(hf:FAq S' iq eq fl'),A7 S' iq eq I { t with fl:=fl' } c):=p
theorem Ma4 {p:Prop} (h:p:=by
 intro h fl' hS hf;have key:∀ j e,j≠iq->entAt S' j e=entAt S j e:=fun j e h1=>Aa (hS j h1);refine ⟨?_,h.nids,fun hn=>?_,fun j q r hq ae=>?_,h.rowW,?_,fun hn=>?_,h.nb,h.nf,hf,h.ap,h.okr,h.okc,h.bigW,h.bigM,h.real,h.bB⟩
 ·rw [key _ _ h.ap.qt.symm]; exact h.top
 ·rw [key _ _ h.ap.qr.symm]; exact h.rowsE hn
 ·have hq2:=h.ap.row q (Ak hq);rw [key _ _ hq2.2.2.2.2];exact Ya2p
 ·rw [key _ _ h.ap.qc.symm]; exact h.costE
 ·rw [key _ _ h.ap.qb.symm]; exact h.basisE hn):p:=h
namespace QQ
theorem A7.flag:Aw4:=fun {S S' iq eq I t c}=>Ma4
end QQ
abbrev Aw5 (p:Prop:=by exact ∀ {S:List Ent}{iq eq:Nat}{I:TI}{t:Tb}{c:Cap}(h:A7 S iq eq I t c)(L:List Ent),A7 (S++L) iq eq I t c):=p
theorem Ma5 {p:Prop} (h:p:=by
 intro h L;exact ⟨Ad h.top,h.nids,fun hn=>Ad (h.rowsE hn),fun j q r hq hr=>Ad (h.rowE j q r hq hr),h.rowW,Ad h.costE,fun hn=>Ad (h.basisE hn),h.nb,h.nf,h.fa.app,h.ap,h.okr,h.okc,h.bigW,h.bigM,h.real,h.bB⟩):p:=h
namespace QQ
theorem A7.app:Aw5:=fun {S iq eq I t c}=>Ma5
structure LowQ (I:TI) (iq n:Nat) (t:Tb):Prop where
 it:I.it<n
 ic:I.ic<n
 ir:t.rows≠[]->I.ir<n
 ib:t.rows≠[]->I.ib<n
 row:∀ p ∈ I.ids,p.1<n
 iq:iq<n
theorem A7.low (h:A7 S iq eq I t c):LowQ I iq S.length t:=by
 refine ⟨Aw h.top,Aw h.costE,fun hn=>Aw (h.rowsE hn),fun hn=>Aw (h.basisE hn),fun p hp=>?_,Aw h.fa⟩;exact Yav
end QQ
abbrev Aw6 (p:Prop:=by exact ∀ {S:List Ent}{iq eq:Nat}{I:TI}{t:Tb}{c:Cap}(h:A7 S iq eq I t c){n:Nat}(hl:LowQ I iq n t),A7 (S.take n) iq eq I t c):=p
theorem Ma6 {p:Prop} (h:p:=by
 intro h n hl;refine ⟨by rw [Eo hl.it]; exact h.top,h.nids,fun hn=>by rw [Eo (hl.ir hn)]; exact h.rowsE hn,fun j q r hq hr=>by rw [Eo (hl.row q (Ak hq))]; exact h.rowE j q r hq hr,h.rowW,by rw [Eo hl.ic]; exact h.costE,fun hn=>by rw [Eo (hl.ib hn)]; exact h.basisE hn,h.nb,h.nf,h.fa.take hl.iq,h.ap,h.okr,h.okc,h.bigW,h.bigM,h.real,h.bB⟩):p:=h
namespace QQ
theorem A7.take:Aw6:=fun {S iq eq I t c}=>Ma6
theorem LowQ.of {n:Nat} {t':Tb} (h:LowQ I iq n t) (hn:t'.rows≠[]->t.rows≠[]):LowQ I iq n t':=⟨h.it,h.ic,fun h'=>h.ir (hn h'),fun h'=>h.ib (hn h'),h.row,h.iq⟩
end QQ
abbrev Aw7 (p:Prop:=by exact ∀ {S S':List Ent}{iq eq:Nat}{I:TI}{t:Tb}{c:Cap}(h:A7 S iq eq I t c){n:Nat}{fl':Bool}(hl:LowQ I iq n t)(hS:∀ j,j<n->j≠iq->nth S' j=nth S j)(hf:FAq S' iq eq fl'),A7 S' iq eq I { t with fl:=fl' } c):=p
theorem Ma7 {p:Prop} (h:p:=by
 intro h n fl' hl hS hf;have key:∀ j e,j<n->j≠iq->entAt S' j e=entAt S j e:=fun j e h1 h2=>Aa (hS j h1 h2);refine ⟨?_,h.nids,fun hn=>?_,fun j q r hq ae=>?_,h.rowW,?_,fun hn=>?_,h.nb,h.nf,hf,h.ap,h.okr,h.okc,h.bigW,h.bigM,h.real,h.bB⟩
 ·rw [key _ _ hl.it h.ap.qt.symm]; exact h.top
 ·rw [key _ _ (hl.ir hn) h.ap.qr.symm]; exact h.rowsE hn
 ·have hq2:=h.ap.row q (Ak hq);rw [key _ _ (hl.row q (Ak hq)) hq2.2.2.2.2];exact Ya2p
 ·rw [key _ _ hl.ic h.ap.qc.symm]; exact h.costE
 ·rw [key _ _ (hl.ib hn) h.ap.qb.symm]; exact h.basisE hn):p:=h
namespace QQ
theorem A7.frame:Aw7:=fun {S S' iq eq I t c}=>Ma7
end QQ
def OutQ (I:TI) (iq j:Nat):Prop:=j≠iq/\j≠I.ic/\j≠I.ib/\∀ p ∈ I.ids,j≠p.1
namespace QQ
def Ut (S:List Ent) (tk:List Nat) (iq eq:Nat) (I:TI) (t':Tb) (cc:Cap) (v:AV) (r:Rs):Prop :=
 ∃ S' k',r=(v,S',tk,k')/\S'.length=S.length/\A7 S' iq eq I t' cc/\∀ j,OutQ I iq j->nth S' j=nth S j
end QQ
end
end
end Go.Proofs.YtcjffhadclngmaaGreat
