/- Part 28. -/
import Derived.Test.YthelkgdmgihhiaaGreatZB27
open Bool renaming and_eq_true->Ci,or_eq_false_iff->Fb,or_false->Fs,not_false->Fw,false_and->F4,not_true->F5,not_eq_true'->Gb,true_and->G2,or_eq_true->Ht,false_or->I5,false_ne_true->Nz,true_or->S8,not_eq_true->iZ,and_true->jA,or_true->jS,and_false->kD
open Classical renaming byContradiction->Od,choose_spec->iS
open Go.IntKind renaming i64->Ce,u64->S6
open Go.Proofs.YthelkgdmgihhiaaGreat.AV renaming bool->Ca,int->Cc,str->Cd
open Int renaming mul_assoc->Ia,natAbs_mul->Ib,mul_add->Ir,add_zero->O2,natCast_mul->O9,mul_zero->Sa,add_assoc->gR,natAbs->kF
open List renaming replicate->Cg,length_cons->Cm,map_cons->Cn,mem_cons_of_mem->Co,cons_append->Cp,mem_cons_self->Cq,length_append->Cs,map_nil->Ct,getElem?_append_left->Cu,mem_append->Cw,nil_append->Cz,getElem?_append_right->C3,all_eq_true->C4,mem_cons->C6,length_nil->C7,drop_length->C9,take_of_length_le->Dc,flatten_cons->Ff,mem_map->Fg,drop_zero->Fi,getElem?_eq_some_iff->Fk,append_nil->Fp,pairwise_cons->Fz,mem_singleton->F0,getElem?_map->F1,take_length->F2,map_append->F6,length_map->F8,take_succ_cons->F9,length_take->Im,replicate_succ->Iw,take_append_of_le_length->Iy,getElem?_take->I2,map_congr_left->I8,take_append_drop->I9,all_cons->Oh,map_map->Ol,mem_flatten->Se,flatten_nil->Sg,set_cons_succ->Si,mem_of_mem_take->Su,getElem?_of_mem->Sv,set_append_right->fX,map_take->gS,map_replicate->iE,lt_irrefl->iM,Pairwise->jF,replicate_succ'->jH,flatten_append->jP
open List.cons renaming injEq->gY
open Nat renaming le_refl->Cf,zero_le->Cl,mul_le_mul_right->E5,le_trans->Fe,zero_add->Fo,lt_of_le_of_lt->Ij,add_zero->Io,mul_comm->Ip,mul_le_mul->Ix,pow_succ->Lq,add_mul->Ns,succ_mul->Oc,mul_le_mul_left->Og,zero_mul->Oj,lt_trichotomy->Ou,gcd_zero_right->Oz,pow_pos->Ss,gcd_le_right->Sy,gcd_comm->gL,reduceAdd->gX,add_sub_cancel->iG,Coprime->jK,sub_zero->jT
open Option renaming map_some->Cy,bind_some->Oo
open Option.some renaming injEq->A3
open Prod.mk renaming injEq->Ch
open Rat renaming intCast_mul->Cv,intCast_neg->Oa,intCast_add->Ox,mul_nonneg->O5,intCast_inj->O8,intCast_pos->Qm,le_refl->S5,intCast_sub->iC
namespace Go.Proofs.YthelkgdmgihhiaaGreat
section
open Go
theorem Au9 {x:Q} (h:okS x):gW (QQ.qF.rat x)/\qv (QQ.qF.rat x)=qv x:=by
 obtain ⟨h1,h2,h3,h4⟩:=h;have hd:x.2≠0:=aA
 have hb:2147483648<10000 ^ 200:=aR
 exact Tf (Tg hd ⟨x.1,x.2,hd,rfl,aA,aA⟩)
theorem Y2 {f:Nat->Q × Bool} : ∀ {n k i:Nat},i<n->nth (Dy f n k).1 i=some (f (k+i)).1
 | 0,_,_,h=>aA
 | n+1,k,0,_=>rfl
 | n+1,k,i+1,h=>by
  show nth (Dy f n (k+1)).1 i=_;rw [Y2 aA,show k+1+i=k+(i+1) by omega]
theorem Y3 {f:Nat->Q × Bool} : ∀ {n k:Nat},(Dy f n k).1.length=n
 | 0,_=>rfl
 | n+1,k=>by simp only [Dy,Cm,Y3]
theorem Agq {f:Nat->Q × Bool} : ∀ {n k:Nat},(Dy f n k).2=false->∀ i,i<n->(f (k+i)).2=false
 | 0,_,_,_,h=>aA
 | n+1,k,hf,i,h=>by
  simp only [Dy,Fb] at hf;cases i with
  | zero=>exact hf.1
  | succ i =>
   have:=Agq hf.2 i aA;rw [show k+1+i=k+(i+1) by omega] at this;exact this
section
variable {F:Fld} {z:Q} {vars:List ByteArray} {real W:Nat}
theorem Aal:∀ {l:List RowT} {i sl:Nat} {t:Tb},(begS F z vars real W l i sl t).flip=t.flip++l.map Dm
 | [],_,_,_=>by simp [begS]
 | r :: l,i,sl,t=>by
  unfold begS;simp only;rw [Aal];simp
theorem Ado {l:List RowT} {fl:Bool} : (Bl F l vars fl).flip=l.map Dm:=by
 unfold Bl;simp only;rw [Aal]; rfl
theorem Wz:∀ {K:Nat} {t t':Tb} {b:Bool},Hr F K t=some (b,t')->t'.flip=t.flip
 | 0,_,_,_,h=>by simp [Hr] at h
 | K+1,t,t',b,h=>by
  unfold Hr at h;split at h
  ·exact Ya13
  ·split at h
   ·exact Ya13
   ·split at h
    ·exact Ya13
    ·exact (Wz h).trans rfl
end
def Tn (F:Fld) (G:Q->Prop) (vars:List ByteArray) (l:List RowT) (a:Ans):Prop :=
 ∃ t',Ahw G vars l t'/\t'.real=2*vars.length+neqs l/\t'.rows.length=l.length/\t'.flip=l.map Dm/\a.f=Jc t'/\(Jc t'=false->a.nu=(Hc F t').1.map F.rat/\(F.stop=true->(Hc F t').2=false))/\(Jc t'=true->a.nu=[])
theorem Xs {F:Fld} {G:Q->Prop} (hE:F.Exact G) {l:List RowT} {vars:List ByteArray} (hr:∀ r ∈ l,E7 vars r) (hb0:F.stop=true\/(Bl F l vars false).fl=false) (hs:Safe F G l.length (2*vars.length+neqs l+l.length) (2*vars.length+neqs l) (tabV (Bl F l vars false))) {K:Nat} (hK:kMax vars l<=K) :
  ∃ a ok,Ju F K l vars false=some (a,ok)/\a.least=none/\(F.stop=false->ok=true)/\(ok=true->Tn F G vars l a):=by
 obtain ⟨b,t',h1,h2⟩:=Ack hE hr hb0 hs hK;have h3:=Rv h1;have h4:=Nx (F:=F) (l:=l) (vars:=vars) (fl:=false);have h5:t'.flip=l.map Dm:=(Wz h1).trans Ado;have h6:t'.real=2*vars.length+neqs l:=h3.1.trans h4.1;have h7:t'.rows.length=l.length:=h3.2.2.2.trans h4.2.2.2;unfold Ju;rw [h1];simp only;rcases h2 with ⟨s1,s2⟩|h2
 ·exact Ya1t
 ·rw [if_neg (by rw [h2.fl]; simp)];cases hf:Jc t' with
  | true =>
   rw [if_pos rfl];exact ⟨_,_,rfl,rfl,fun h=>eI,fun h=>⟨t',h2,h6,h7,h5,hf.symm,fun h'=>eU,fun _=>rfl⟩⟩
  | false =>
   rw [if_neg (by simp)];refine ⟨_,_,rfl,rfl,fun h=>eI,fun h=>⟨t',h2,h6,h7,h5,hf.symm,fun _=>⟨rfl,fun h'=>?_⟩,fun h'=>eU⟩⟩;rw [h'] at h;simpa [h2.fl] using h
theorem Ap2 {l:List RowT} {vars:List ByteArray} (hl:l.length<=13) (hr:∀ r ∈ l,E7 vars r/\D9 1000000000000 r) {K:Nat} (hK:kMax vars l<=K) :
  ∃ a,askN K l vars=some a/\a.least=none/\(Tn QQ.qF okS vars l a\/Tn WW.qF gW vars l a):=by
 have bw:∀ r ∈ l,E7 vars r:=fun r h=>(hr r h).1;obtain ⟨a,ok,h1,h2,h3,h4⟩:=Xs Mm bw (.inl rfl) An1 hK;unfold askN;rw [h1];cases ok with
 | true=>exact ⟨a,rfl,h2,.inl (h4 rfl)⟩
 | false =>
  obtain ⟨s1,s2⟩:=Acx hl hr;obtain ⟨a',ok',k1,k2,k3,k4⟩:=Xs Gf bw (.inr s1) s2 hK;exact Ya3e
theorem Auw {F:Fld} {G:Q->Prop} (hE:F.Exact G) {m N i:Nat} {t:Tb} (h:TOk G m N t) (hi:t.real+i<N+1) (h1:(F.whole 1).2=false) (hf:(mulF F t i).2=false) :
  G (mulF F t i).1/\qv (mulF F t i).1=(if at_ false t.flip i=true then -1 else 1)*((tabV t).c (t.real+i) - 1):=by
 have w:=hE.whole 1 aD h1;have g:=h.okc _ (Gi (d:=q0) (k:=t.real+i) (l:=t.cost) (by rw [h.cost]; exact hi));have e1:((1:Int):Rat)=1:=rfl;unfold mulF at hf ⊢;simp only at hf ⊢;split
 ·rename_i ew;rw [if_pos ew] at hf;simp only [Fb] at hf;have d:=hE.minus _ _ g w.1 hf.1;have w0:=hE.whole 0 aD hf.2.1;have d2:=hE.minus _ _ w0.1 d.1 hf.2.2;refine ⟨d2.1,d2.2.trans ?_⟩;have e0:((0:Int):Rat)=0:=rfl;rw [w0.2,d.2,w.2,e0,e1];show _=-1*(qv (at_ q0 t.cost (t.real+i)) - 1);grind
 ·rename_i ew;rw [if_neg ew] at hf;have d:=hE.minus _ _ g w.1 hf;refine ⟨d.1,d.2.trans ?_⟩;rw [w.2,e1];show _=1*(qv (at_ q0 t.cost (t.real+i)) - 1);grind
theorem Axp {m N M Mc i:Nat} (hM:1<=M) {t0:Simp.Tab} (hI:Ints m N M Mc t0) (hX:2*(bndX m M Mc*bndX m M Mc+bndX m M Mc)*(bndX m M Mc+1)<10000 ^ 200) {t:Tb} (hr:Reach m N t0 (tabV t)) (h:TOk gW m N t) (hi:t.real+i<N+1):(mulF WW.qF t i).2=false:=by
 obtain ⟨y0,h1,h2,-,w,h4,h5⟩:=Kt hM hI hr hi;have g:=h.okc _ (Gi (d:=q0) (k:=t.real+i) (l:=t.cost) (by rw [h.cost]; exact hi));have w1:=Gf.whole 1 aD rfl;have w0:=Gf.whole 0 aD rfl;have e1:((1:Int):Rat)=1:=rfl;have e0:((0:Int):Rat)=0:=rfl;obtain ⟨X,hXe⟩:∃ X,X=bndX m M Mc:=⟨_,rfl⟩;rw [<- hXe] at hX h2 h5;have hbig:2*X<10000 ^ 200:=by
  refine Ij ?_ hX;rw [Nat.mul_add_one];have:X<=X*X+X:=Nat.le_add_left _ _;omega
 have hc:qv (at_ q0 t.cost (t.real+i))=((w:Int):Rat) / ((y0:Int):Rat):=h4;have hy:=Gh h1;have f1:Ug (qv (at_ q0 t.cost (t.real+i)) - qv (WW.qF.whole 1).1):=by
  rw [w1.2,hc,e1];refine ⟨w - y0,y0,h1,by rw [iC]; grind,?_,?_⟩ <;> omega
 have d1:=P7.minus _ _ g w1.1 f1;have d:=Gf.minus _ _ g w1.1 d1;have f2:Ug (qv (WW.qF.whole 0).1 - qv (WW.qF.minus (at_ q0 t.cost (t.real+i)) (WW.qF.whole 1).1).1):=by
  rw [w0.2,d.2,w1.2,hc,e1,e0];refine ⟨y0 - w,y0,h1,by rw [iC]; grind,?_,?_⟩ <;> omega
 have d2:=P7.minus _ _ w0.1 d.1 f2;unfold mulF;simp only;split
 ·show ((WW.qF.minus _ _).2 || ((WW.qF.whole 0).2 || (WW.qF.minus _ _).2))=false;rw [d1,d2]; rfl
 ·exact d1
theorem Aku {m:Nat} (hm:m<=13):2*(bndX m 1000000000000 (m*1000000000000)*bndX m 1000000000000 (m*1000000000000)+bndX m 1000000000000 (m*1000000000000))*(bndX m 1000000000000 (m*1000000000000)+1)<10000 ^ 200:=by
 have:∀ m,m<14->2*(bndX m 1000000000000 (m*1000000000000)*bndX m 1000000000000 (m*1000000000000)+bndX m 1000000000000 (m*1000000000000))*(bndX m 1000000000000 (m*1000000000000)+1)<10000 ^ 200:=aR
 exact this m aA
def NuIs (vars:List ByteArray) (l:List RowT) (t:Simp.Tab) (nu:List Q):Prop :=
 nu.length=l.length/\(∀ q ∈ nu,gW q)/\∀ i,i<l.length->qv (at_ q0 nu i)=sgR (rwA l i)*Simp.dualY l.length (2*vars.length+neqs l) t i
theorem Axq {F:Fld} {G:Q->Prop} (hE:F.Exact G) (a2b:∀ x,G x->gW (F.rat x)/\qv (F.rat x)=qv x) {l:List RowT} {vars:List ByteArray} {t:Tb} (h:Ahw G vars l t) (h1:t.real=2*vars.length+neqs l) (h2:t.rows.length=l.length) (h3:t.flip=l.map Dm) (h4:(F.whole 1).2=false) (h5:∀ i,i<l.length->(mulF F t i).2=false) :
  NuIs vars l (tabV t) ((Hc F t).1.map F.rat):=by
 have key:∀ i,i<l.length->G (mulF F t i).1/\qv (mulF F t i).1=sgR (rwA l i)*Simp.dualY l.length (2*vars.length+neqs l) (tabV t) i:=fun i hi=>by
  obtain ⟨a,b⟩:=Auw hE h.ok (i:=i) aA h4 (h5 i hi);refine ⟨a,b.trans ?_⟩;have e:at_ false t.flip i=Dm (rwA l i):=by
   unfold at_ rwA;rw [h3,Bj,Nv (d:=([],0,true)) hi]; rfl
  rw [e];unfold Simp.dualY;rw [h1];congr 1;unfold Dm sgR;simp only [decide_eq_true_eq]
 have nq:∀ i,i<l.length->nth ((Hc F t).1.map F.rat) i=some (F.rat (mulF F t i).1):=fun i hi=>by
  rw [Bj];show (nth (Dy (mulF F t) t.rows.length 0).1 i).map _=_;rw [Y2 aA,Fo]; rfl
 refine ⟨?_,fun q hq=>?_,fun i hi=>?_⟩
 ·rw [F8];show (Dy (mulF F t) t.rows.length 0).1.length=_;rw [Y3,h2]
 ·obtain ⟨x,hx,rfl⟩:=Fg.1 hq;obtain ⟨i,hi⟩:=Sv hx;have bh:i<t.rows.length:=by
   have:=(Fk.1 hi).1;have e:(Hc F t).1.length=t.rows.length:=Y3;omega
  have e2:nth (Hc F t).1 i=some (mulF F t i).1:=by
   show nth (Dy (mulF F t) t.rows.length 0).1 i=_;rw [Y2 bh,Fo]
  rw [Ae,hi] at e2;rw [Option.some.inj e2];exact (a2b _ (key i aA).1).1
 ·unfold at_;rw [nq i hi];exact (a2b _ (key i hi).1).2.trans (key i hi).2
theorem Ayc {l:List RowT} {vars:List ByteArray} (hl:l.length<=13) (hr:∀ r ∈ l,E7 vars r/\D9 1000000000000 r) {a:Ans} (h:Tn QQ.qF okS vars l a\/Tn WW.qF gW vars l a) (hf:a.f=false) :
  ∃ t K,∃ R:Simp.Run l.length (2*vars.length+neqs l+l.length) (2*vars.length+neqs l) K,R.t K=t/\t.c (2*vars.length+neqs l+l.length)≠0 /\
   Agree l.length (2*vars.length+neqs l+l.length) (R.t 0) (Simp.first l.length (2*vars.length+neqs l) (rowX vars (2*vars.length+neqs l) (2*vars.length+neqs l+l.length+1) l) fun i=>rowX vars (2*vars.length+neqs l) (2*vars.length+neqs l+l.length+1) l i (2*vars.length+neqs l+l.length)) /\
   ((∀ j,j<2*vars.length+neqs l->0<=t.c j)\/∃ s,s<2*vars.length+neqs l/\t.c s<0/\∀ i,i<l.length->t.T i s<=0)/\NuIs vars l t a.nu:=by
 rcases h with ⟨t,h1,h2,h3,h4,h5,h6,-⟩|⟨t,h1,h2,h3,h4,h5,h6,-⟩
 ·obtain ⟨K,R,r1,r2⟩:=h1.run;rw [hf] at h5;obtain ⟨n1,n2⟩:=h6 h5.symm;have n3:=n2 rfl;refine ⟨tabV t,K,R,r1,fun h0=>?_,r2,h1.stop,?_⟩
  ·have:=(T8 Mm h1.ok).2 h0;rw [<- h5] at this; cases this
  ·rw [n1];have n4:(Dy (mulF QQ.qF t) t.rows.length 0).2=false:=by
    have:((QQ.qF.whole 1).2 || (Dy (mulF QQ.qF t) t.rows.length 0).2)=false:=n3;simp only [Fb] at this;exact this.2
   refine Axq Mm (fun x=>Au9) h1 h2 h3 h4 rfl fun i hi=>?_;have:=Agq n4 i aA;rw [Fo] at this;exact this
 ·obtain ⟨K,R,r1,r2⟩:=h1.run;rw [hf] at h5;obtain ⟨n1,-⟩:=h6 h5.symm;refine ⟨tabV t,K,R,r1,fun h0=>?_,r2,h1.stop,?_⟩
  ·have:=(T8 Gf h1.ok).2 h0;rw [<- h5] at this; cases this
  ·rw [n1];refine Axq Gf (fun x hx=>⟨hx,rfl⟩) h1 h2 h3 h4 rfl fun i hi=>?_;have hI:Ints l.length (2*vars.length+neqs l+l.length) 1000000000000 (l.length*1000000000000) (R.t 0):=by
    have b6:=Wr Gf P7 (fun w hw=>Abh hw) hr (E5 1000000000000 (show l.length+1<=14 by omega));have hb:=Ts Gf (fun r h=>(hr r h).1) b6;have hI:=W3 hr hb;have ha:=Nf (fun r h=>(hr r h).1) hb;refine ⟨fun i j hi hj=>?_,fun j hj=>?_⟩
    ·rw [r2.T i j hi hj,<- ha.T i j hi hj]; exact hI.1 i j hi hj
    ·rw [r2.c j hj,<- ha.c j hj]; exact hI.2 j hj
   exact Axp aA hI (Aku hl) (r1 ▸ Reach.run R) h1.ok aA
theorem Arp {l:List RowT} {vars:List ByteArray} (hr:∀ r ∈ l,E7 vars r) {a:Ans} (h:Tn QQ.qF okS vars l a\/Tn WW.qF gW vars l a):(a.f=true↔∃ v,Sat v l)/\(a.f=true->a.nu=[]):=by
 rcases h with ⟨t',h1,-,-,-,h5,-,h7⟩|⟨t',h1,-,-,-,h5,-,h7⟩
 ·rw [h5]; exact ⟨h1.feas Mm hr,h7⟩
 ·rw [h5]; exact ⟨h1.feas Gf hr,h7⟩
abbrev BigT:=Bool × List Int
def bigC (b:BigT):List AV:=[.prim (.bool b.1),.frz (b.2.map digC) .unk]
def A7 (l:List BigT):AV:=.frz (l.map bigC) .unk
def vB (b:BigT):Int:=V b.1 b.2
def zB (z:Int):BigT:=(decide (z<0),dig z.natAbs)
theorem Ar5 {z:Int} (h:okZ z=true):vB (zB z)=z:=V_zA h
theorem Qo {l:List BigT} {i:Nat} {b:BigT} (h:nth l i=some b):nth (l.map bigC) i=some (bigC b):=cN
def quoZ (a b:Int):Int:=if b=0 then 0 else a.fdiv b
def remZ (a b:Int):Int:=if b=0 then 0 else a.fmod b
theorem Qv (l:List BigT):Dz 2 (l.map bigC)=true:=D2 (f:=bigC) (sz:=2) (fun _=>rfl) l
theorem Alj {a b:Nat} (h:a<=b) (hb:(dig b).length<=200):(dig a).length<=200:=A9.2 (Ij h (A9.1 hb))
theorem Au4 {z:Int} : okZ z=true↔(dig z.natAbs).length<=200:=by simp [okZ]
theorem As5 {a b:Int} (hb:0<=b) (ha:(dig a.natAbs).length<=200):(dig (quoZ a b).natAbs).length<=200:=by
 unfold quoZ;split
 ·exact Alj (b:=a.natAbs) (by simp) ha
 ·rename_i h;refine Alj (b:=a.natAbs) ?_ ha;rw [Int.fdiv_eq_ediv_of_nonneg _ hb];have h1:=Int.emod_nonneg a h;have h2:=Int.emod_lt_of_pos a (show 0<b by omega);have h3:=Int.emod_add_mul_ediv a b;generalize a / b=q at *;generalize a % b=r at *;rcases Int.lt_trichotomy q 0 with hq|hq|hq
  ·have:b*q<=1*q:=Int.mul_le_mul_of_nonpos_right (show (1:Int)<=b by omega) aA;have h5:b*(q+1)<=1*(q+1):=Int.mul_le_mul_of_nonpos_right (show (1:Int)<=b by omega) aA;rw [Ir] at h5;omega
  ·subst hq; simp
  ·have:1*q<=b*q:=Int.mul_le_mul_of_nonneg_right (show (1:Int)<=b by omega) aA;omega
theorem Aum {a b:Int} (ha:(dig a.natAbs).length<=200) (hb:(dig b.natAbs).length<=200):(dig ((a.gcd b:Nat):Int).natAbs).length<=200:=by
 show (dig (a.natAbs.gcd b.natAbs)).length<=200;by_cases h:a.natAbs=0
 ·rw [h,Nat.gcd_zero_left]; exact hb
 ·exact Alj (Nat.gcd_le_left _ aA) ha
theorem Aui (z:Int):(dig (fitZ z).natAbs).length<=200:=Au4.1 (Au3 z)
end
section
open Go Go.Proofs.Tryz
set_option maxHeartbeats 2000000
set_option maxRecDepth 100000
def comI (c:Int) (q:Q):Int:=fitZ (c*quoZ q.2 ((c.gcd q.2:Nat):Int))
def comF (l:List Q):Int:=l.foldl comI 1
def intF (c:Int) (q:Q):Int:=fitZ (q.1*quoZ c q.2)
def Ad9 (l:List Q):List BigT:=l.map fun q=>zB (intF (comF l) q)
def lenQ (q:Q):Prop:=(dig q.1.natAbs).length<=200/\(dig q.2.natAbs).length<=200/\0<=q.2
theorem Au5:(dig (kF 1)).length<=200:=aR
theorem Ald (l:List Q):(dig (comF l).natAbs).length<=200:=by
 unfold comF;have:∀ (l:List Q) (c:Int),(dig c.natAbs).length<=200->(dig (l.foldl comI c).natAbs).length<=200:=by
  intro l;induction l with
  | nil=>intro c h; exact h
  | cons q l ih=>intro c _; exact ih _ (Aui _)
 exact this l 1 Au5
theorem Ap8 {l:List Q} {i:Nat} {q:Q} (h:nth l i=some q):comF (l.take (i+1))=comI (comF (l.take i)) q:=by
 unfold comF;rw [Db h,List.foldl_append]; rfl
theorem Anb {l:List Q} {i:Nat} {q:Q} (h:nth l i=some q):nth (l.map ceW) i=some (ceW q):=cN
section
variable (S:List Ent) (tk:List Nat) (k:Nat)
theorem Rp (l:List Q) (hl:l.length<=1000) (hq:∀ q ∈ l,lenQ q):cL prog 46 [.frz (l.map ceW) .unk] S tk k=some (A7 (Ad9 l),S,tk,k):=by
 have hO S tk k:=Mu S tk k 1 aD;simp only [zA,bigA,digA] at hO;refine opP func46 ntmps46 (hp3:=rfl) ?_;simp (maxSteps:=10^6)+contextual(disch:=try exact dqd)only[ev1,simprocAttr,Cc,Ca,Cd,results46,bigC,zB,hO];refine loop1 (P:=prog) (fun x st=>st.T.length=69/\(x<=l.length)/\getT st.T 0=.frz (l.map ceW) .unk/\getT st.T 3=.ref 0 0 0/\getT st.T 18=.frz (l.map ceW) .unk/\getT st.T 19=.int (l.length:Nat)/\getT st.T 20=.int (x:Nat)/\st.S=[⟨0,bigC (zB (comF (l.take x)))⟩]) (fun x=>l.length - x) (fun x=>A7 (Ad9 l)) (0) ?_ ?_;case refine_2=>exact ⟨rfl,Cl _,rfl,rfl,rfl,rfl,rfl,rfl⟩
 rintro i ⟨T,S',tk',n'⟩ ⟨hl,hi,e0,e3,e18,e19,e20,eS⟩ IH;subst eS;obtain ⟨g,hg,hT⟩:=Ao hl;rw [hg] at e0 e3 e18 e19 e20;subst hT;clear hg hl;have bz:=Ar (i:=i) aA;by_cases hlt:i<l.length
 ·have d1:decide ((i:Int)<(l.length:Int))=true:=aH
  obtain ⟨q,hx⟩:=Ab hlt;have hx':=Anb hx;have tw:=hq q (Ak hx);have hcl:=Ald (l.take i);have gt:=Ap8 hx;obtain ⟨c,hc⟩:∃ c,c=comF (l.take i):=⟨_,rfl⟩;rw [<- hc] at hcl gt ⊢;have hgl:=Aum hcl tw.2.1;obtain ⟨g,hg⟩:∃ g:Int,g=((c.gcd q.2:Nat):Int):=⟨_,rfl⟩;have hG S tk k:=told (E:=E1) (Akp S tk k (decide (c<0)) (decide (q.2<0)) (dig c.natAbs) (dig q.2.natAbs) aA Za4m);rw [V_of c hcl,V_of q.2 tw.2.1,<- hg] at hG;rw [<- hg] at hgl;have j8:0<=g:=by rw [hg]; omega
  have hD S tk k:=told (E:=E1) (Adq S tk k (decide (q.2<0)) (decide (g<0)) (dig q.2.natAbs) (dig g.natAbs) Za4m aA);rw [V_of q.2 tw.2.1,V_of g hgl,divA,<- quoZ,<- remZ] at hD;have hul:=As5 j8 tw.2.1;obtain ⟨u,hu⟩:∃ u,u=quoZ q.2 g:=⟨_,rfl⟩;rw [<- hu] at hD hul;have hM S tk k:=told (E:=E1) (Ru S tk k (decide (c<0)) (decide (u<0)) (dig c.natAbs) (dig u.natAbs) aA aA);rw [V_of c hcl,V_of u hul,sgnZ] at hM;have a3n:comF (l.take (i+1))=fitZ (c*u):=by rw [gt,hu,hg]; rfl
  rw [<- a3n] at hM;simp only [ceW,digA] at hx';simp only [zA,bigA,digA] at hG hD hM;simp (maxSteps:=10^6)+contextual(disch:=try exact dqd)only[ev1,simprocAttr,Cc,Ca,Cd,results46,bigC,zB,e0,e3,e18,e19,e20,d1,hx',hG,hD,hM,bz];exact IH (i+1) _ aF ⟨rfl,aE,aU,aU,aU,aU,aU,aU⟩
 have d1:decide ((i:Int)<(l.length:Int))=false:=aH
 have fm:i=l.length:=aA
 subst fm;rw [F2];simp (maxSteps:=10^6)+contextual(disch:=try exact dqd)only[ev1,simprocAttr,Cc,Ca,Cd,results46,bigC,zB,e0,e3,e18,e19,e20,d1];have hcl:=Ald l;obtain ⟨C,hC⟩:∃ C,C=comF l:=⟨_,rfl⟩;rw [<- hC] at hcl ⊢;have hif:Ad9 l=l.map fun q=>zB (intF C q):=by unfold Ad9; rw [<- hC]
 rw [hif];refine loop1 (P:=prog) (fun x st=>st.T.length=69/\(x.1<=l.length)/\(x.2.1=(l.take x.1).map fun q=>zB (intF C q))/\(Be st.tk x.2.2 2=true)/\getT st.T 3=.ref 0 0 0/\getT st.T 9=.frz (x.2.1.map bigC) x.2.2/\getT st.T 42=.frz (l.map ceW) .unk/\getT st.T 43=.int (l.length:Nat)/\getT st.T 44=.int (x.1:Nat)/\st.S=[⟨0,bigC (zB C)⟩]) (fun x=>l.length - x.1) (fun x=>A7 (l.map fun q=>zB (intF C q))) (0,[],.nilc) ?_ ?_;case refine_2=>exact ⟨rfl,Cl _,rfl,rfl,rfl,rfl,rfl,rfl,rfl,rfl⟩
 rintro ⟨i,out,c⟩ ⟨T,S',tk',n'⟩ ⟨hl,hi,he,ae,e3,e9,e42,e43,e44,eS⟩ IH;simp only at hi he ae e3 e9 e42 e43 e44 eS;subst eS;obtain ⟨g,hg,hT⟩:=Ao hl;rw [hg] at e3 e9 e42 e43 e44;subst hT;clear hg hl;have bz:=Ar (i:=i) aA;by_cases hlt:i<l.length
 ·have d1:decide ((i:Int)<(l.length:Int))=true:=aH
  obtain ⟨q,hx⟩:=Ab hlt;have hx':=Anb hx;have tw:=hq q (Ak hx);have hD S tk k:=told (E:=E1) (Adq S tk k (decide (C<0)) (decide (q.2<0)) (dig C.natAbs) (dig q.2.natAbs) aA Za4m);rw [V_of C hcl,V_of q.2 tw.2.1,divA,<- quoZ,<- remZ] at hD;have hul:=As5 tw.2.2 hcl;obtain ⟨u,hu⟩:∃ u,u=quoZ C q.2:=⟨_,rfl⟩;rw [<- hu] at hD hul;have hM S tk k:=told (E:=E1) (Ru S tk k (decide (q.1<0)) (decide (u<0)) (dig q.1.natAbs) (dig u.natAbs) (by have:=tw.1; omega) aA);rw [V_of q.1 tw.1,V_of u hul,sgnZ] at hM;have a1p:intF C q=fitZ (q.1*u):=by unfold intF; rw [<- hu]
  rw [<- a1p] at hM;have m8:out.length<=l.length:=by rw [he]; simp; omega
  have hr:=Qv out;have bu:=Bw ae;have cd:(out.map bigC).length+1<=1048576:=aC
  have u9:=Db hx;simp only [ceW,digA] at hx';simp only [zA,bigA,digA] at hD hM;simp (maxSteps:=10^6)+contextual(disch:=try exact dqd)only[ev1,simprocAttr,Cc,Ca,Cd,results46,bigC,zB,e3,e9,e42,e43,e44,d1,hx',hD,hM,bz,hr];exact IH (i+1,out++[zB (intF C q)],A4 tk' c 2) _ aF ⟨rfl,aE,by rw [u9,F6,he]; rfl,bu,aU,aU,aU,aU,aU,aU⟩
 ·have d1:decide ((i:Int)<(l.length:Int))=false:=aH
  have fm:i=l.length:=aA
  subst fm;rw [F2] at he;simp (maxSteps:=10^6)+contextual(disch:=try exact dqd)only[ev1,simprocAttr,Cc,Ca,Cd,results46,bigC,zB,e3,e9,e42,e43,e44,d1];rw [he]; rfl
theorem M4 (l:List RowT) (dp:∀ r ∈ l,r.1.length<=1048576) (hi:∀ r ∈ l,i64 r.2.1/\∀ c ∈ r.1,i64 c.2) (K:Nat) (a:Ans) (h0:sysE l=0) (di:askN K l (varsF l)=some a) (bg:a.least=none) (hn:a.nu.length<=1000) (hq:∀ q ∈ a.nu,lenQ q) :
  cL prog 24 [An l] S tk k=some (.tup [if a.f=true then A7 [] else A7 (Ad9 a.nu),.bool (!a.f)],S,tk,k):=by
 have hC S tk k:=G9 S tk k l dp;obtain ⟨h1,h2,h3,-⟩:=D8 h0;have hV S tk k:=Ec S tk k l h1 h2;have hA S tk k:=Ra S tk k l aA aA (varsF l) aA H6 hi h1 K a di bg;have hI S tk k:=Rp S tk k a.nu hn hq;have c1:(sysE l != 0)=false:=aX
 simp only [ansC,lsC,ceW,digA,An,Bc,Cp,Cz] at hA;simp only [An,Bc] at hC hV;simp only [A7] at hI;cases hf:a.f with
 | true =>
  rw [hf] at hA;rw [if_pos rfl];refine opP func24 ntmps24 (hp3:=rfl) ?_;simp (maxSteps:=10^6)+contextual(disch:=try exact dqd)only[ev1,simprocAttr,Cc,Ca,Cd,results24,An,Bc,hC,hV,hA,c1];rfl
 | false =>
  rw [hf] at hA;rw [if_neg Nz];refine opP func24 ntmps24 (hp3:=rfl) ?_;simp (maxSteps:=10^6)+contextual(disch:=try exact dqd)only[ev1,simprocAttr,Cc,Ca,Cd,results24,An,Bc,hC,hV,hA,c1,hI];rfl
end
end
section
open Go
theorem Agz {s:Nat->Nat} {A:Nat} (hA:1<=A):∀ {m:Nat},(∀ k,k<m->s k<=A)->Simp.prodN s m<=A ^ m
 | 0,_=>Cf _
 | m+1,h=>by rw [Simp.prodN,Lq]; exact Ix (Agz hA fun k hk=>h k aA) (h m aA)
theorem Ag0 {s:Nat->Nat} {A:Nat} (hA:1<=A):∀ {m:Nat},(∀ k,k<m->s k<=A)->(∃ k,k<m/\s k<=2)->Simp.prodN s m<=2*A ^ (m - 1)
 | 0,_,⟨k,hk,_⟩=>aA
 | m+1,h,⟨k,hk,h2⟩=>by
  rw [Simp.prodN,iG];by_cases e:k=m
  ·subst e;have h1:=Agz hA (s:=s) (m:=k) fun i hi=>h i aA;rw [Ip];exact Ix h2 h1
  ·have ih:=Ag0 hA (s:=s) (m:=m) (fun i hi=>h i aA) ⟨k,aA,h2⟩;have hm:m=m - 1+1:=aA
   have e1:A ^ m=A ^ (m - 1)*A:=by
    conv=>lhs; rw [hm,Lq]
   rw [e1,<- Nat.mul_assoc];exact Ix ih (h m aA)
def bigH (m M:Nat):Nat:=2*(m*M+1) ^ (m - 1)
structure Atr (vars:List ByteArray) (l:List RowT) (y:Nat->Rat):Prop where
 zero:∀ k,k<vars.length->(Simp.sum l.length fun i=>y i*((cofI vars (rwA l i).1 k:Int):Rat))=0
 nn:∀ i,i<l.length->(rwA l i).2.2=false->0<=y i
 pos:0<Simp.sum l.length fun i=>y i*(((rwA l i).2.1:Int):Rat)
theorem Avj (r:RowT):sgR r=1\/sgR r=-1:=by unfold sgR; split <;> simp
theorem Auz {l:List RowT} {vars:List ByteArray} (hl:l.length<=13) (hr:∀ r ∈ l,E7 vars r/\D9 1000000000000 r) {a:Ans} (h:Tn QQ.qF okS vars l a\/Tn WW.qF gW vars l a) (hf:a.f=false) :
  a.nu.length=l.length/\(∀ q ∈ a.nu,gW q)/\Atr vars l (fun i=>qv (at_ q0 a.nu i)) /\
  ∀ M,(∀ r ∈ l,D9 M r)->∃ D:Int,D≠0/\D.natAbs<=bigH l.length M/\∀ i,i<l.length->∃ Y:Int,qv (at_ q0 a.nu i)*((D:Int):Rat)=((Y:Int):Rat)/\Y.natAbs<=bigH l.length M:=by
 obtain ⟨t,K,R,r1,h0,ha,ag,n1,n2,n3⟩:=Ayc hl hr h hf;have b7:∀ r ∈ l,E7 vars r:=fun r h=>(hr r h).1;obtain ⟨m,hm⟩:∃ m,m=l.length:=⟨_,rfl⟩;obtain ⟨L,hL⟩:∃ L,L=2*vars.length+neqs l:=⟨_,rfl⟩;have hC:=Ak9 b7;obtain ⟨RR,hRR⟩:∃ RR,RR=rowX vars (2*vars.length+neqs l) (2*vars.length+neqs l+l.length+1) l:=⟨_,rfl⟩;obtain ⟨bb,xy⟩:∃ bb,bb=fun i=>RR i (2*vars.length+neqs l+l.length):=⟨_,rfl⟩;have a1p i j:=Pw (real:=2*vars.length+neqs l) (W:=2*vars.length+neqs l+l.length+1) hr i j;have a0i:∀ M,(∀ r ∈ l,D9 M r)->∀ i j,∃ w:Int,RR i j=((w:Int):Rat)/\w.natAbs<=M:=fun M hM i j=>by
  rw [hRR];exact Pw (fun r b8=>⟨b7 r b8,hM r b8⟩) i j
 rw [<- hRR,<- xy] at ha hC;clear a1p;have k9:Simp.Span m (L+m) (Simp.first m L RR bb) t:=by
  have s0:=R.span K (Cf _);rw [r1] at s0;subst hm hL;refine ⟨fun i hi=>?_,fun i hi=>?_,?_⟩
  ·obtain ⟨w,hw⟩:=s0.to i hi;exact ⟨w,fun j hj=>by rw [hw j hj]; exact Simp.sum_congr fun k hk=>by rw [ha.T k j hk hj]⟩
  ·obtain ⟨w,hw⟩:=s0.of i hi;exact ⟨w,fun j hj=>by rw [<- ha.T i j hi hj,hw j hj]⟩
  ·obtain ⟨u,hu⟩:=s0.cost;exact ⟨u,fun j hj=>by rw [hu j hj,ha.c j hj]; congr 1; exact Simp.sum_congr fun k hk=>by rw [ha.T k j hk hj]⟩
 have b6:Simp.Fit m (L+m) t:=by rw [<- r1,hm,hL]; exact R.fits K (Cf _)
 have yj:∀ i,i<m->0<=t.T i (L+m):=by rw [<- r1,hm,hL]; exact R.rights K (Cf _)
 have rq:∀ x,Simp.Ker m (L+m) t x↔Simp.Ker m (L+m) (Simp.first m L RR bb) x:=fun x=>by
  rw [<- r1,hm,hL];exact (R.ker (Cl _) (Cf _) x).trans (ha.ker x)
 have mb:∀ x,Simp.Ker m (L+m) (Simp.first m L RR bb) x->Simp.dot (L+m) t.c x=Simp.dot (L+m) (Simp.first m L RR bb).c x:=fun x hx=>by
  subst hm hL;rw [<- r1,R.cost (Cl _) (Cf _) ((ha.ker x).2 hx),ha.dotC]
 have rp:∀ j,j<L->0<=t.c j:=by
  rcases ag with ag|⟨s,hs,hn,hp⟩
  ·rw [hL]; exact ag
  ·exfalso;rw [<- hm,<- hL] at *;obtain ⟨x,hx,hlt⟩:=Simp.least_none (L:=L+m) (f:=t.c) b6 (Cf _) yj (fun i hi hB=>by have:=b6.lt i hi; omega) aA hn hp (fun i hi hB=>by have:=b6.lt i hi; omega) (fun _ _=>rfl) 0;have hkx:=(rq x).1 hx.sol.ker;rw [mb x hkx,Simp.first_cost hkx] at hlt;exact Ya2v
 have hne:t.c (L+m)≠0:=by rw [hL,hm]; exact h0
 have hneg:t.c (L+m)<0:=by
  have:=Simp.cost_le b6 yj rq mb;grind
 have hy:∀ i,i<l.length->qv (at_ q0 a.nu i)=sgR (rwA l i)*Simp.dualY m L t i:=fun i hi=>by rw [n3 i hi,hm,hL]
 have hmy:(sysY vars l).m=m:=hm.symm;rw [<- hL] at hC;obtain ⟨c1,c2,c3⟩:=Simp.cert hC hmy k9 rp hneg;refine ⟨n1,n2,⟨fun k hk=>?_,fun i hi he=>?_,?_⟩,fun M hM=>?_⟩
 ·have:=c1 k hk;rw [<- hm,Simp.sum_congr (g:=fun i=>sgR (rwA l i)*Simp.dualY m L t i*((cofI vars (rwA l i).1 k:Int):Rat)) fun i hi=>by rw [hy i aA]];exact this
 ·show 0<=qv (at_ q0 a.nu i);rw [hy i hi]; exact c2 i aA he
 ·rw [<- hm,Simp.sum_congr (g:=fun i=>sgR (rwA l i)*Simp.dualY m L t i*(((rwA l i).2.1:Int):Rat)) fun i hi=>by rw [hy i aA]];exact c3
 ·obtain ⟨k0,uh,hB0⟩:=Simp.cost_art b6 yj rq mb hne;have hM1:1<=M:=(hM _ (Gi (d:=(([],0,true):RowT)) (k:=0) (l:=l) aA)).one;have hA2:2<=m*M+1:=by
   have:1*1<=m*M:=Ix aA hM1;omega
  obtain ⟨A,hA⟩:∃ A:Nat->Nat->Int,∀ i j,RR i j=((A i j:Int):Rat)/\(A i j).natAbs<=M :=
   ⟨fun i j=>Classical.choose (a0i M hM i j),fun i j=>iS (a0i M hM i j)⟩
  have hb:Simp.prodN (fun k=>if t.B k<L then m*M+1 else 2) m<=bigH l.length M:=by
   rw [<- hm];exact Ag0 (A:=m*M+1) aA (fun k _=>eA) ⟨k0,uh,by rw [if_neg aA]; omega⟩
  obtain ⟨D,d1,d2,d3⟩:=Simp.dual_small b6 k9 A (fun i j _ _=>(hA i j).1) (fun k=>if t.B k<L then m*M+1 else 2) (fun k _=>eA)
   (fun k hk hB=>by
    rw [if_pos hB];have:=Simp.nabs_le (a:=fun i=>A i (t.B k)) (M:=M) (n:=m) fun i _=>(hA i _).2;omega) (fun k hk hB=>by rw [if_neg hB]; omega)
  refine ⟨D,d1,Fe d2 hb,fun i hi=>?_⟩;obtain ⟨Y,e1,e2⟩:=d3 i aA;rw [hy i hi];rcases Avj (rwA l i) with hs|hs
  ·exact ⟨Y,by rw [hs,<- e1]; grind,Fe e2 hb⟩
  ·exact ⟨-Y,by rw [hs,Oa,<- e1]; grind,by rw [Int.natAbs_neg]; exact Fe e2 hb⟩
theorem At3 {c d:Int} (hc:0<c) (hd:0<d) {D:Int} (hD:D≠0) (hDl:D.natAbs<10000 ^ 200) (h1:c ∣ D) (h2:d ∣ D) (n:Int):comI c (n,d) ∣ D/\0<comI c (n,d)/\c ∣ comI c (n,d)/\d ∣ comI c (n,d):=by
 obtain ⟨x,rfl⟩:∃ x:Nat,c=x:=⟨c.toNat,aA⟩;obtain ⟨y,rfl⟩:∃ y:Nat,d=y:=⟨d.toNat,aA⟩;have hx:0<x:=aA
 have hy:0<y:=aA
 have hg:0<Nat.gcd x y:=Nat.gcd_pos_of_pos_left _ hx;have e1:quoZ (y:Int) (((x:Int).gcd (y:Int):Nat):Int)=((y / Nat.gcd x y:Nat):Int):=by
  unfold quoZ;have:((x:Int).gcd (y:Int))=Nat.gcd x y:=rfl;rw [this,if_neg aA,Int.fdiv_eq_ediv_of_nonneg _ aA]; rfl
 have e2:(x:Int)*((y / Nat.gcd x y:Nat):Int)=((Nat.lcm x y:Nat):Int):=by
  rw [<- O9];congr 1;unfold Nat.lcm;exact (Nat.mul_div_assoc x (Nat.gcd_dvd_right x y)).symm
 have k1:x ∣ D.natAbs:=by have:=Int.natAbs_dvd_natAbs.2 h1; simpa using this
 have k2:y ∣ D.natAbs:=by have:=Int.natAbs_dvd_natAbs.2 h2; simpa using this
 have k3:Nat.lcm x y ∣ D.natAbs:=Nat.lcm_dvd k1 k2;have k4:Nat.lcm x y<=D.natAbs:=Nat.le_of_dvd aA k3;have k5:0<Nat.lcm x y:=Nat.lcm_pos hx hy;have e3:comI (x:Int) (n,(y:Int))=((Nat.lcm x y:Nat):Int):=by
  unfold comI;simp only;rw [e1,e2];exact Uh (Nn (by simp only [Int.natAbs_natCast]; omega))
 rw [e3];refine ⟨Int.ofNat_dvd_left.2 k3,aA,Int.natCast_dvd_natCast.2 (Nat.dvd_lcm_left x y),Int.natCast_dvd_natCast.2 (Nat.dvd_lcm_right x y)⟩
theorem Alc {D:Int} (hD:D≠0) (hDl:D.natAbs<10000 ^ 200):∀ {l:List Q} {c:Int},0<c->c ∣ D->(∀ q ∈ l,0<q.2/\q.2 ∣ D)->l.foldl comI c ∣ D/\0<l.foldl comI c/\c ∣ l.foldl comI c/\∀ q ∈ l,q.2 ∣ l.foldl comI c
 | [],c,hc,h1,_=>⟨h1,hc,Int.dvd_refl _,fun q h=>aT⟩
 | q :: l,c,hc,h1,h2=>by
  obtain ⟨q1,q2⟩:=h2 q (Cq ..);obtain ⟨a1,a2,a3,a4⟩:=At3 hc q1 hD hDl h1 q2 q.1;obtain ⟨b1,b2,b3,b4⟩:=Alc hD hDl (l:=l) a2 a1 fun q' h=>h2 q' (Co _ h);refine ⟨b1,b2,Int.dvd_trans a3 b3,fun q' h=>?_⟩;rcases C6.1 h with rfl|h
  ·exact Int.dvd_trans a4 b3
  ·exact b4 q' h
theorem Aut {q:Q} (hq:gW q) {D Y:Int} (h:qv q*((D:Int):Rat)=((Y:Int):Rat)):q.2 ∣ D:=by
 have hp:=hq.pos;have h2:=Gh (show q.2≠0 by omega);have e:q.1*D=Y*q.2:=by
  have:((q.1*D:Int):Rat)=((Y*q.2:Int):Rat):=by
   rw [Cv,Cv,<- h];unfold qv;grind
  exact O8.mp this
 have e2:=congrArg kF e;rw [Ib,Ib] at e2;have hc:jK q.2.natAbs q.1.natAbs:=by
  have:=hq.cop;unfold jK;rw [gL]; exact this
 exact Int.natAbs_dvd_natAbs.1 (hc.dvd_of_dvd_mul_left ⟨Y.natAbs,by rw [e2,Ip]⟩)
theorem Auo {q:Q} (hq:gW q) {c:Int} (hc:0<c) (h:q.2 ∣ c) {B:Nat} (hB:B<10000 ^ 200) (hb:(qv q*((c:Int):Rat))<=((B:Nat):Rat)/\-((B:Nat):Rat)<=qv q*((c:Int):Rat)) :
  ((intF c q:Int):Rat)=qv q*((c:Int):Rat)/\(intF c q).natAbs<=B:=by
 have hp:=hq.pos;obtain ⟨k,rfl⟩:=h;have e1:quoZ (q.2*k) q.2=k:=by
  unfold quoZ;rw [if_neg aA];exact Int.mul_fdiv_cancel_left _ aA
 have h2:=Gh (show q.2≠0 by omega);have e2:((q.1*k:Int):Rat)=qv q*((q.2*k:Int):Rat):=by
  rw [Cv,Cv];unfold qv;grind
 have hb2:(q.1*k).natAbs<=B:=by
  rw [<- e2] at hb;have c1:((B:Nat):Rat)=(((B:Nat):Int):Rat):=rfl;rw [c1,<- Oa] at hb;have d1:=Rat.intCast_le_intCast.1 hb.1;have d2:=Rat.intCast_le_intCast.1 hb.2;omega
 have e3:intF (q.2*k) q=q.1*k:=by
  unfold intF;rw [e1];exact Uh (Nn aA)
 rw [e3];exact ⟨e2,hb2⟩
structure Ajl (vars:List ByteArray) (l:List RowT) (zs:List Int):Prop where
 len:zs.length=l.length
 zero:∀ k,k<vars.length->Simp.isum l.length (fun i=>at_ 0 zs i*cofI vars (rwA l i).1 k)=0
 nn:∀ i,i<l.length->(rwA l i).2.2=false->0<=at_ 0 zs i
 pos:0<Simp.isum l.length fun i=>at_ 0 zs i*(rwA l i).2.1
theorem Akn {m:Nat} (hm:m<=13):bigH m 1000000000000<10000 ^ 45:=by
 have:∀ m,m<14->bigH m 1000000000000<10000 ^ 45:=aR
 exact this m aA
theorem Aus {q:Q} (h:gW q):lenQ q:=⟨h.ln,h.ld,by have:=h.pos; omega⟩
theorem Aml {l:List RowT} {vars:List ByteArray} (hl:l.length<=13) (hr:∀ r ∈ l,E7 vars r/\D9 1000000000000 r) {a:Ans} (h:Tn QQ.qF okS vars l a\/Tn WW.qF gW vars l a) (hf:a.f=false) :
  a.nu.length=l.length/\(∀ q ∈ a.nu,lenQ q)/\∃ zs:List Int,Ad9 a.nu=zs.map zB/\Ajl vars l zs/\∀ M,(∀ r ∈ l,D9 M r)->M<=1000000000000->∀ z ∈ zs,z.natAbs<=bigH l.length M:=by
 obtain ⟨n1,n2,hc,hs⟩:=Auz hl hr h hf;obtain ⟨D,d1,d2,d3⟩:=hs 1000000000000 fun r b8=>(hr r b8).2;have hHl:=Akn hl;have hp45:10000 ^ 45<10000 ^ 200:=aR
 have hDl:D.natAbs<10000 ^ 200:=aA
 have nq:∀ q ∈ a.nu,∃ i,i<l.length/\at_ q0 a.nu i=q:=fun q hq=>by
  obtain ⟨i,hi⟩:=Sv hq;have bh:=(Fk.1 hi).1;exact ⟨i,aA,by unfold at_; rw [Ae,hi]; rfl⟩
 have hdv:∀ D:Int,(∀ i,i<l.length->∃ Y:Int,qv (at_ q0 a.nu i)*((D:Int):Rat)=((Y:Int):Rat))->∀ q ∈ a.nu,0<q.2/\q.2 ∣ D:=fun D hD q hq=>by
  obtain ⟨i,hi,rfl⟩:=nq q hq;obtain ⟨Y,hY⟩:=hD i hi;exact ⟨(n2 _ hq).pos,Aut (n2 _ hq) hY⟩
 obtain ⟨c,hcc⟩:∃ c,c=comF a.nu:=⟨_,rfl⟩;have a2c:∀ D:Int,D≠0->D.natAbs<10000 ^ 200->(∀ i,i<l.length->∃ Y:Int,qv (at_ q0 a.nu i)*((D:Int):Rat)=((Y:Int):Rat))->c ∣ D/\0<c/\∀ q ∈ a.nu,q.2 ∣ c:=fun D h1 h2 h3=>by
  obtain ⟨b1,b2,-,b4⟩:=Alc h1 h2 (l:=a.nu) (c:=1) aA (Int.one_dvd _) (hdv D h3);rw [hcc];exact ⟨b1,b2,b4⟩
 obtain ⟨c8,hc0,hc2⟩:=a2c D d1 hDl fun i hi=>by obtain ⟨Y,e,-⟩:=d3 i hi; exact ⟨Y,e⟩
 have a2d:∀ (D:Int) (H:Nat),D≠0->H<10000 ^ 200->c ∣ D->(∀ i,i<l.length->∃ Y:Int,qv (at_ q0 a.nu i)*((D:Int):Rat)=((Y:Int):Rat)/\Y.natAbs<=H)->∀ i,i<l.length->((intF c (at_ q0 a.nu i):Int):Rat)=qv (at_ q0 a.nu i)*((c:Int):Rat)/\(intF c (at_ q0 a.nu i)).natAbs<=H:=fun D H h1 hH h2 h3 i hi=>by
  have hq:at_ q0 a.nu i ∈ a.nu:=Gi aA;obtain ⟨Y,e1,e2⟩:=h3 i hi;obtain ⟨k,hk⟩:=h2;obtain ⟨e,he⟩:=hc2 _ hq;have hgq:=n2 _ hq;have hw:qv (at_ q0 a.nu i)*((c:Int):Rat)=(((at_ q0 a.nu i).1*e:Int):Rat):=by
   have h2':=Gh (show (at_ q0 a.nu i).2≠0 by have:=hgq.pos; omega);rw [he,Cv,Cv];unfold qv;grind
  have hYk:Y=(at_ q0 a.nu i).1*e*k:=by
   have:((Y:Int):Rat)=(((at_ q0 a.nu i).1*e*k:Int):Rat):=by
    rw [<- e1,hk,Cv c k,Cv _ k,<- hw]; grind
   exact O8.mp this
  have uh:k≠0:=fun h0=>h1 (by rw [hk,h0,Sa]);have hle:((at_ q0 a.nu i).1*e).natAbs<=H:=by
   rw [hYk,Ib] at e2;have:((at_ q0 a.nu i).1*e).natAbs*1<=((at_ q0 a.nu i).1*e).natAbs*k.natAbs:=Og _ aA;omega
  refine Auo hgq hc0 (hc2 _ hq) hH ?_;rw [hw];have c1:((H:Nat):Rat)=(((H:Nat):Int):Rat):=rfl;rw [c1,<- Oa];exact ⟨Rat.intCast_le_intCast.2 aA,Rat.intCast_le_intCast.2 aA⟩
 have d7:=a2d D (bigH l.length 1000000000000) d1 aA c8 d3;have pq:∀ i,i<l.length->at_ 0 (a.nu.map (intF c)) i=intF c (at_ q0 a.nu i):=fun i hi=>by
  unfold at_;rw [Bj];have:=Nv (d:=q0) (k:=i) (l:=a.nu) aA;rw [this]; rfl
 have pp:(0:Rat)<((c:Int):Rat):=Qm.2 hc0;have a0b:∀ f:Nat->Int,((Simp.isum l.length (fun i=>at_ 0 (a.nu.map (intF c)) i*f i):Int):Rat)=((c:Int):Rat)*Simp.sum l.length fun i=>qv (at_ q0 a.nu i)*((f i:Int):Rat):=fun f=>by
  rw [Simp.isum_cast,<- Simp.sum_mul];exact Simp.sum_congr fun i hi=>by rw [pq i hi,Cv,(d7 i hi).1]; grind
 refine ⟨n1,fun q hq=>Aus (n2 q hq),a.nu.map (intF c),?_,⟨by rw [F8,n1],fun k hk=>?_,fun i hi he=>?_,?_⟩,fun M hM hM2 z hz=>?_⟩
 ·unfold Ad9;rw [Ol,<- hcc]; rfl
 ·have:=a0b fun i=>cofI vars (rwA l i).1 k;rw [hc.zero k hk] at this;have h0:((0:Int):Rat)=0:=rfl;exact O8.mp (this.trans (by rw [h0]; grind))
 ·rw [pq i hi];have:=hc.nn i hi he;have h2:(0:Rat)<=((intF c (at_ q0 a.nu i):Int):Rat):=by
   rw [(d7 i hi).1];exact O5 this (Rat.le_of_lt pp)
  exact Rat.intCast_nonneg.1 h2
 ·have:=a0b fun i=>(rwA l i).2.1;have h2:(0:Rat)<((Simp.isum l.length (fun i=>at_ 0 (a.nu.map (intF c)) i*(rwA l i).2.1):Int):Rat):=by
   rw [this];exact Rat.mul_pos pp hc.pos
  exact Qm.1 h2
 ·obtain ⟨q,hq,rfl⟩:=Fg.1 hz;obtain ⟨i,hi,rfl⟩:=nq q hq;obtain ⟨D',f1,f2,f3⟩:=hs M hM;have a3t:bigH l.length M<=bigH l.length 1000000000000:=Og 2 (Nat.pow_le_pow_left (by have:=Og l.length hM2; omega) _);obtain ⟨g1,-,-⟩:=a2c D' f1 aA fun i hi=>by obtain ⟨Y,e,-⟩:=f3 i hi; exact ⟨Y,e⟩
  exact (a2d D' (bigH l.length M) f1 aA g1 f3 i hi).2
def Gw:List (ByteArray × Int)->ByteArray->Int
 | [],_=>0
 | c :: cs,s=>if sEq c.1 s=true then c.2 else Gw cs s
theorem Yf {cs:List (ByteArray × Int)} (h:∀ c ∈ cs,i64 c.2) (s:ByteArray):i64 (Gw cs s):=by
 induction cs with
 | nil=>unfold Gw i64; omega
 | cons c cs ih =>
  unfold Gw;split
  ·exact h c (by simp)
  ·exact ih fun x hx=>h x bJ
theorem Zo {z:Int} (h:okZ z=true):sgnZ z=.tup [zA z,.bool true]:=by rw [sgnZ,Uh h,h]
theorem Ang {n:Int} (h:i64 n):okZ n=true:=Agv (m:=5) (by unfold i64 at h; omega) aK
def Vc (b:Bool):Cap:=if b=true then .nilc else .unk
def ownC (e:Bool × Int):List AV:=[.prim (.bool (decide (e.2<0))),.frz ((dig e.2.natAbs).map digC) (Vc e.1)]
def ownS:List (Bool × Int)->List AV
 | []=>[]
 | e :: l=>.prim (.bool (decide (e.2<0))) :: .frz ((dig e.2.natAbs).map digC) (Vc e.1) :: ownS l
theorem R6:∀ {l:List (Bool × Int)} {k:Nat} {e:Bool × Int},nth l k=some e->takeN 2 ((ownS l).drop (k*2))=some (ownC e)
 | a :: l,0,e,h=>dA
 | a :: l,k+1,e,h=>by
  have:=R6 (l:=l) (k:=k) h;rw [show (k+1)*2=k*2+1+1 by omega];simpa only [ownS,List.drop_succ_cons] using this
 | [],_,_,h=>bP
theorem Za:∀ {l:List (Bool × Int)} {k:Nat} {e:Bool × Int} (z:Bool × Int),nth l k=some e->over (ownS l) (k*2) (ownC z)=some (ownS (l.set k z))
 | a :: l,0,e,z,h=>by cases ownS l <;> simp [ownS,ownC,over]
 | a :: l,k+1,e,z,h=>by
  have:=Za (l:=l) (k:=k) z h;rw [show (k+1)*2=k*2+1+1 by omega];simp only [ownS,over,this,Cy,Si]
 | [],_,_,_,h=>bP
theorem Agx:∀ {n:Nat} {l:List (Bool × Int)},n<=l.length->Hx 2 n (ownS l)=some ((l.take n).map ownC)
 | 0,_,_=>by simp [Hx]
 | n+1,[],h=>aO
 | n+1,x :: l,h=>by
  simp only [ownS,Hx,takeN,Cy,List.drop_succ_cons,Fi,Agx (n:=n) (l:=l) aI,F9,Cn];rfl
theorem Axx (l:List (Bool × Int)):M3 (some (l.map ownC))=A7 (l.map fun e=>zB e.2):=by
 unfold M3 A7;simp only;rw [if_pos]
 ·rw [Ol,Ol]; rfl
 ·rw [List.all_map,C4];intro e _;rfl
theorem Acj:∀ n:Nat,(Cg n [AV.prim (.bool false),.frz [] .nilc]).flatten=ownS (Cg n (true,0))
 | 0=>rfl
 | n+1=>by
  rw [Iw,Iw,Ff,Acj n];simp [ownS,Bp,Vc]
theorem Axo {P:Program} {t:TypeId} {n:Nat} (hz:(Ay P t).bind (Av P)=some [.prim (.bool false),.frz [] .nilc]) (hs:(Ay P t).bind (szOf P)=some 2) (hb:(Ay P t).bind (Ep P)=some 32) (hn:n<=1048576) :
  mkA P t (.prim (.int .i64 (n:Int))) (.prim (.int .i64 (n:Int)))=some (n,2,ownS (Cg n (true,0))):=by
 unfold mkA;rw [hz,hs,hb,intN_cast];simp only [mkB];rw [if_pos ⟨Cf _,hn,aA,rfl⟩];rw [Acj]
def dotN (f:RowT->Int) (l:List RowT) (ms:List BigT):Nat->Int
 | 0=>0
 | i+1=>dotN f l ms i+(match nth l i,nth ms i with|some r,some m=>vB m*f r|_,_=>0)
theorem Ym {f:RowT->Int} {l:List RowT} {ms:List BigT} {i:Nat} {r:RowT} {m:BigT} (h1:nth l i=some r) (h2:nth ms i=some m):dotN f l ms (i+1)=dotN f l ms i+vB m*f r:=by
 rw [dotN,h1,h2]
theorem W1 {f:RowT->Int} {l:List RowT} {ms:List BigT} (hf:∀ r ∈ l,i64 (f r)) (hm:∀ m ∈ ms,m.2.length<=100):∀ i,(dotN f l ms i).natAbs<=i*10000 ^ 105
 | 0=>by simp [dotN]
 | i+1=>by
  have ih:=W1 hf hm i;rw [dotN];cases h1:nth l i with
  | none=>simp only [O2]; exact Fe ih (E5 _ aA)
  | some r =>
   cases h2:nth ms i with
   | none=>simp only [O2]; exact Fe ih (E5 _ aA)
   | some m =>
    have a:=X7 m.1 m.2 (hm m (Ei h2));have b:(f r).natAbs<10000 ^ 5:=by have:=hf r (Ei h1); unfold i64 at this; omega
    have c:=Am2 a b;simp only [vB] at c ⊢;generalize V m.1 m.2*f r=t at *;rw [Oc];generalize 10000 ^ 105=u at *;omega
theorem Anh {z:Int} {i:Nat} (hi:i<=9999) (h:z.natAbs<=i*10000 ^ 105):okZ z=true:=by
 refine Agv (m:=106) ?_ aK;rw [Lq];have:i*10000 ^ 105<=9999*10000 ^ 105:=E5 _ hi;have h3:0<10000 ^ 105:=Ss aK;generalize 10000 ^ 105=u at *;omega
theorem Asz {m:BigT} (hm:m.2.length<=100) {n:Int} (hn:i64 n):okZ (V m.1 m.2*n)=true:=by
 have a:=X7 m.1 m.2 hm;have b:n.natAbs<10000 ^ 5:=by unfold i64 at hn; omega
 exact Agv (Am2 a b) aK
def J1:List RowT->List BigT->Bool
 | r :: l,m :: ms=>(!r.2.2 && m.1) || J1 l ms
 | _,_=>false
def Nu (ms:List BigT):Bool:=ms.all fun m=>D6 m.1 m.2
def Lb (l:List RowT) (ms:List BigT):Int:=if l.length≠ms.length then 6 else if Nu ms=false then 6 else if J1 l ms=true then 2 else sysE l
def sumF (l:List RowT) (ms:List BigT) (v:ByteArray):Int:=dotN (fun r=>Gw r.1 v) l ms l.length
def N4 (l:List RowT) (ms:List BigT):Int:=dotN (fun r=>r.2.1) l ms l.length
def N3 (l:List RowT) (ms:List BigT):AV :=
 if Lb l ms=0 then .tup [A7 ((varsF l).map fun v=>zB (sumF l ms v)),zA (N4 l ms),.int 0] else .tup [A7 [],zA 0,.int (Lb l ms)]
theorem Alg (l:List RowT) (ms:List BigT):pure3 (N3 l ms)=true:=by unfold N3; split <;> rfl
theorem An9 {l:List RowT} {ms:List BigT} {i:Nat} {r:RowT} {m:BigT} (h1:nth l i=some r) (h2:nth ms i=some m):J1 (l.drop i) (ms.drop i)=((!r.2.2 && m.1) || J1 (l.drop (i+1)) (ms.drop (i+1))):=by rw [Au h1,Au h2,J1]
def Adu (l:List RowT) (ms:List BigT) (v:ByteArray) (i:Nat):Int:=dotN (fun r=>Gw r.1 v) l ms i
def constD (l:List RowT) (ms:List BigT) (i:Nat):Int:=dotN (fun r=>r.2.1) l ms i
def Xf (l:List RowT) (ms:List BigT) (vs:List ByteArray):Bool:=vs.all fun v=>decide (sumF l ms v=0)
def N0 (l:List RowT) (ms:List BigT):Bool:=decide (Lb l ms=0) && (decide (0<N4 l ms) && Xf l ms (varsF l))
def gcdN (ms:List BigT):Nat->Int
 | 0=>0
 | i+1=>match nth ms i with|some m=>((gcdN ms i).gcd (vB m):Nat)|none=>gcdN ms i
theorem Agd {ms:List BigT} {i:Nat} {m:BigT} (h:nth ms i=some m):gcdN ms (i+1)=((gcdN ms i).gcd (vB m):Nat):=by rw [gcdN,h]
theorem Asu {ms:List BigT} (hm:∀ m ∈ ms,m.2.length<=100):∀ i,(gcdN ms i).natAbs<10000 ^ 100
 | 0=>by simp only [gcdN,Int.natAbs_zero]; exact Ss aK
 | i+1=>by
  have ih:=Asu hm i;rw [gcdN];cases h:nth ms i with
  | none=>exact ih
  | some m =>
   simp only [Int.natAbs_natCast];have hv:(vB m).natAbs<10000 ^ 100:=X7 m.1 m.2 (hm m (Ei h));unfold Int.gcd;by_cases h0:(vB m).natAbs=0
   ·rw [h0,Oz]; exact ih
   ·exact Ij (Sy _ aA) hv
theorem Agc {ms:List BigT} (hm:∀ m ∈ ms,m.2.length<=100) (i:Nat):okZ (gcdN ms i)=true:=Agv (Asu hm i) aK
def gcdC (ms:List BigT):Nat->List AV
 | 0=>[.prim (.bool false),.frz [] .nilc]
 | i+1=>ownC (false,gcdN ms (i+1))
theorem Aul (ms:List BigT) (i:Nat):gcdC ms i=ownC (i == 0,gcdN ms i):=by
 cases i with
 | zero=>simp [gcdC,ownC,gcdN,Bp,Vc]
 | succ i=>rfl
def Xv (ms:List BigT):List BigT:=ms.map fun m=>zB (quoZ (vB m) (gcdN ms ms.length))
theorem gcd_w (P:Program) [Globs] [Ext P] {f:FuncId} {p q:Bool} {l r:List Int} {c:Bool} {S:List Ent} {tk:List Nat} {k:Nat} (hx:(Ext.on P f || Ext.mv P f)=false) :
  cL P f [.agg [.prim (.bool p),.frz (l.map digC) (Vc c)],bigA q r] S tk k=cL P f [bigA p l,bigA q r] S tk k:=Wa rfl rfl hx
theorem div_w (P:Program) [Globs] [Ext P] {f:FuncId} {p q:Bool} {l r:List Int} {c:Bool} {S:List Ent} {tk:List Nat} {k:Nat} (hx:(Ext.on P f || Ext.mv P f)=false) :
  cL P f [bigA q r,.agg [.prim (.bool p),.frz (l.map digC) (Vc c)]] S tk k=cL P f [bigA q r,bigA p l] S tk k:=Wa rfl rfl hx
section
variable (S:List Ent) (tk:List Nat) (k:Nat)
theorem Aw5 (z:Int):(cmpZ z 0 != 0)=!decide (z=0):=by
 unfold cmpZ;by_cases h1:z<0
 ·rw [if_pos h1]; have:¬ z=0:=aA
  simp [this]
 ·rw [if_neg h1];by_cases h2:0<z
  ·rw [if_pos h2]; have:¬ z=0:=aA
   simp [this]
  ·rw [if_neg h2]; have:z=0:=aA
   simp [this]
end
def dotZ (f:RowT->Int):List RowT->List Int->Int
 | r :: l,z :: zs=>z*f r+dotZ f l zs
 | _,_=>0
theorem Afx {f:RowT->Int} : ∀ {a b:List RowT} {xs ys:List Int},xs.length=a.length->dotZ f (a++b) (xs++ys)=dotZ f a xs+dotZ f b ys
 | [],b,[],ys,_=>by simp [dotZ]
 | r :: a,b,x :: xs,ys,h=>by
  rw [Cp,Cp,dotZ,dotZ,Afx aI,gR]
 | [],_,_ :: _,_,h=>aO
 | _ :: _,_,[],_,h=>aO
theorem Aa4 {f:RowT->Int} {a:List RowT} {xs:List Int} {r:RowT} {z:Int} (h:xs.length=a.length):dotZ f (a++[r]) (xs++[z])=dotZ f a xs+z*f r:=by
 rw [Afx h]; simp [dotZ]
theorem Yk {f:RowT->Int} (g:Int):∀ {l:List RowT} {zs:List Int},dotZ f l (zs.map fun z=>g*z)=g*dotZ f l zs
 | [],zs=>Za46
 | r :: l,[]=>by simp [dotZ]
 | r :: l,z :: zs=>by rw [Cn,dotZ,dotZ,Yk g,Ir,Ia]
theorem Aa3 {f:RowT->Int} : ∀ {l:List RowT} {zs:List Int},(∀ r ∈ l,f r=0)->dotZ f l zs=0
 | [],zs,_=>Za46
 | r :: l,[],_=>by simp [dotZ]
 | r :: l,z :: zs,h=>by rw [dotZ,h r (Cq ..),Aa3 fun x hx=>h x (Co _ hx)]; simp
theorem Qa {f:RowT->Int} {A B:Nat} : ∀ {l:List RowT} {zs:List Int},(∀ r ∈ l,(f r).natAbs<=A)->(∀ z ∈ zs,z.natAbs<=B)->(dotZ f l zs).natAbs<=l.length*(B*A)
 | [],zs,_,_=>Za46
 | r :: l,[],_,_=>by simp [dotZ]
 | r :: l,z :: zs,h1,h2=>by
  have ih:=Qa (l:=l) (zs:=zs) (fun x hx=>h1 x (Co _ hx)) (fun x hx=>h2 x (Co _ hx));have h3:(z*f r).natAbs<=B*A:=by
   rw [Ib];exact Ix (h2 z (Cq ..)) (h1 r (Cq ..))
  rw [dotZ,Cm,Ns];omega
theorem Zw {α:Type} {d:α} {l:List α} {i:Nat} (h:i<l.length):l.take (i+1)=l.take i++[at_ d l i]:=Db (Nv h)
theorem Abr {f:RowT->Int} {l:List RowT} {zs:List Int} (h:zs.length=l.length):∀ i,i<=l.length->Simp.isum i (fun i=>at_ 0 zs i*f (rwA l i))=dotZ f (l.take i) (zs.take i)
 | 0,_=>by simp [Simp.isum,dotZ]
 | i+1,hi=>by
  rw [Simp.isum,Abr h i aA,Zw (d:=(([],0,true):RowT)) (show i<l.length by omega),Zw (d:=(0:Int)) (show i<zs.length by omega),Aa4 aC]; rfl
theorem Aa2 {f:RowT->Int} {l:List RowT} {zs:List Int} (h:zs.length=l.length) (hz:∀ z ∈ zs,okZ z=true):∀ i,i<=l.length->dotN f l (zs.map zB) i=dotZ f (l.take i) (zs.take i)
 | 0,_=>by simp [dotN,dotZ]
 | i+1,hi=>by
  have h1:=Nv (d:=(([],0,true):RowT)) (show i<l.length by omega);have h2:=Nv (d:=(0:Int)) (show i<zs.length by omega);have h3:nth (zs.map zB) i=some (zB (at_ 0 zs i)):=by rw [Bj,h2]; rfl
  rw [Ym h1 h3,Aa2 h hz i aA,Zw (d:=(([],0,true):RowT)) (show i<l.length by omega),Zw (d:=(0:Int)) (show i<zs.length by omega),Aa4 aC,Ar5 (hz _ (Gi aA))]
structure Ti (l:List RowT) (zs:List Int):Prop where
 len:zs.length=l.length
 zero:∀ v,dotZ (fun r=>Gw r.1 v) l zs=0
 nn:∀ i,i<l.length->(rwA l i).2.2=false->0<=at_ 0 zs i
 pos:0<dotZ (fun r=>r.2.1) l zs
theorem Ty {s:ByteArray} : ∀ {cs:List (ByteArray × Int)},(∀ c ∈ cs,c.1≠s)->Gw cs s=0
 | [],_=>rfl
 | c :: cs,h=>by
  rw [Gw,if_neg fun e=>h c (Cq ..) (P0.1 e)];exact Ty fun c' hc=>h c' (Co _ hc)
theorem Aau {vars:List ByteArray} {v:ByteArray} (hv:v ∈ vars):∀ {cs:List (ByteArray × Int)},(∀ c ∈ cs,c.1 ∈ vars)->cofI vars cs (idxV vars v)=Gw cs v
 | [],_=>rfl
 | c :: cs,h=>by
  have ih:=Aau hv fun c' hc=>h c' (Co _ hc);rw [cofI,Gw,ih];by_cases e:c.1=v
  ·rw [if_pos (by rw [e]),if_pos (P0.2 e)]
  ·rw [if_neg fun e'=>e ?_,if_neg fun e'=>e (P0.1 e')];have a:=Uq (h c (Cq ..));have b:=Uq hv;rw [e',b] at a;exact (Option.some.inj a).symm
theorem Aty {l:List RowT} {zs:List Int} (h:Ajl (varsF l) l zs):Ti l zs:=by
 have hs f:=Abr (f:=f) h.len l.length (Cf _);simp only [F2] at hs;have ht:zs.take l.length=zs:=Dc fC;rw [ht] at hs;refine ⟨h.len,fun v=>?_,h.nn,?_⟩
 ·by_cases hv:v ∈ varsF l
  ·have:=h.zero (idxV (varsF l) v) (Ma hv).2;rw [<- hs fun r=>Gw r.1 v];refine Eq.trans ?_ this;have key:∀ n,n<=l.length->Simp.isum n (fun i=>at_ 0 zs i*Gw (rwA l i).1 v)=Simp.isum n fun i=>at_ 0 zs i*cofI (varsF l) (rwA l i).1 (idxV (varsF l) v):=by
    intro n;induction n with
    | zero=>intro _; rfl
    | succ n ih =>
     intro hn;rw [Simp.isum,Simp.isum,ih aA,Aau (cs:=(rwA l n).1) hv fun c hc=>H6 _ (Gi (d:=(([],0,true):RowT)) (show n<l.length by omega)) c hc]
   exact key _ (Cf _)
  ·refine Aa3 fun r hr=>Ty fun c hc e=>hv ?_;rw [<- e]; exact H6 r hr c hc
 ·rw [<- hs fun r=>r.2.1]; exact h.pos
theorem Ti.div {l:List RowT} {zs zs':List Int} {g:Int} (h:Ti l zs) (hg:0<g) (he:zs=zs'.map fun z=>g*z):Ti l zs':=by
 subst he;have hl:zs'.length=l.length:=by have:=h.len; simpa using this
 refine ⟨hl,fun v=>?_,fun i hi he=>?_,?_⟩
 ·have:=h.zero v;rw [Yk] at this;rcases Int.mul_eq_zero.1 this with h0|h0
  ·omega
  ·exact h0
 ·have:=h.nn i hi he;have e:at_ 0 (zs'.map fun z=>g*z) i=g*at_ 0 zs' i:=by
   unfold at_;rw [Bj,Nv (d:=(0:Int)) (show i<zs'.length by omega)]; rfl
  rw [e] at this;exact Int.nonneg_of_mul_nonneg_right this hg
 ·have:=h.pos;rw [Yk] at this;exact Int.pos_of_mul_pos_right this hg
theorem Al7 (ms:List BigT):∀ i,0<=gcdN ms i
 | 0=>by simp [gcdN]
 | i+1=>by
  rw [gcdN];split
  ·omega
  ·exact Al7 ms i
theorem Agb {ms:List BigT} : ∀ {i:Nat},i<=ms.length->∀ k m,k<i->nth ms k=some m->gcdN ms i ∣ vB m
 | 0,_,k,m,hk,_=>aA
 | i+1,hi,k,m,hk,hm=>by
  obtain ⟨m',ef⟩:=Ab (show i<ms.length by omega);rw [Agd ef];by_cases e:k=i
  ·subst e;rw [ef] at hm;cases hm;exact Int.gcd_dvd_right ..
  ·exact Int.dvd_trans (Int.gcd_dvd_left ..) (Agb aA k m aA hm)
theorem Avt {l:List RowT} {zs:List Int} (h:Ti l zs) (hz:∀ z ∈ zs,okZ z=true):∃ zs',Xv (zs.map zB)=zs'.map zB/\Ti l zs'/\∀ B:Nat,(∀ z ∈ zs,z.natAbs<=B)->∀ z ∈ zs',z.natAbs<=B:=by
 obtain ⟨g,hg⟩:∃ g,g=gcdN (zs.map zB) (zs.map zB).length:=⟨_,rfl⟩;have hd:∀ z ∈ zs,g ∣ z:=fun z uk=>by
  obtain ⟨i,hi⟩:=Sv uk;have bh:=(Fk.1 hi).1;have h1:nth (zs.map zB) i=some (zB z):=by rw [Bj,Ae,hi]; rfl
  have:=Agb (ms:=zs.map zB) (Cf _) i _ dY h1;rw [Ar5 (hz z uk),<- hg] at this;exact this
 have j8:0<=g:=by rw [hg]; exact Al7 _ _
 have hgp:0<g:=by
  rcases Int.lt_or_eq_of_le j8 with h'|h'
  ·exact h'
  ·exfalso;have aq:∀ z ∈ zs,z=0:=fun z uk=>by
    obtain ⟨k,hk⟩:=hd z uk;rw [<- h'] at hk; omega
   have hb:=Qa (f:=fun r=>r.2.1) (A:=(l.map fun r=>r.2.1.natAbs).foldr max 0) (B:=0) (l:=l) (zs:=zs) (fun r hr=>?_) (fun z uk=>by rw [aq z uk]; simp)
   ·have:=h.pos;simp at hb;omega
   ·have:∀ (m:List Nat) (x:Nat),x ∈ m->x<=m.foldr max 0:=by
     intro m;induction m with
     | nil=>intro x hx; cases hx
     | cons y m ih =>
      intro x hx;rw [List.foldr_cons];rcases C6.1 hx with rfl|hx
      ·omega
      ·have:=ih x hx; omega
    exact this _ _ (Fg.2 ⟨r,hr,rfl⟩)
 have hq:∀ z ∈ zs,z=g*quoZ z g:=fun z uk=>by
  unfold quoZ;rw [if_neg aA,Int.fdiv_eq_ediv_of_nonneg _ j8];exact (Int.mul_ediv_cancel' (hd z uk)).symm
 refine ⟨zs.map fun z=>quoZ z g,?_,h.div hgp ?_,fun B hB z uk=>?_⟩
 ·unfold Xv;rw [Ol,Ol,<- hg];exact I8 fun z uk=>by
   show zB (quoZ (vB (zB z)) g)=zB (quoZ z g);rw [Ar5 (hz z uk)]
 ·rw [Ol];conv=>lhs; rw [<- List.map_id zs]
  exact I8 fun z uk=>hq z uk
 ·obtain ⟨z',ev,rfl⟩:=Fg.1 uk;have h1:=hB z' ev;have h2:=congrArg kF (hq z' ev);rw [Ib] at h2;have h3:1*(quoZ z' g).natAbs<=g.natAbs*(quoZ z' g).natAbs:=E5 _ aA;omega
theorem Ar7 {z:Int} (h:okZ z=true):D6 (zB z).1 (zB z).2=true:=by
 have:=P6 z Za4p;exact this
theorem Adk:∀ {zs:List Int},(∀ z ∈ zs,okZ z=true)->Nu (zs.map zB)=true:=fun {zs} h=>by
 unfold Nu;rw [C4];intro m hm;obtain ⟨z,hz,rfl⟩:=Fg.1 hm;exact Ar7 (h z hz)
theorem Xp:∀ {l:List RowT} {zs:List Int},zs.length=l.length->(∀ i,i<l.length->(rwA l i).2.2=false->0<=at_ 0 zs i)->J1 l (zs.map zB)=false
 | [],[],_,_=>rfl
 | [],_ :: _,h,_=>aO
 | _ :: _,[],h,_=>aO
 | r :: l,z :: zs,h,h2=>by
  have h0:=h2 0 (by simp);have ih:=Xp (l:=l) (zs:=zs) aI fun i hi he=>h2 (i+1) dF he;rw [Cn,J1,ih,Fs];cases he:r.2.2 with
  | true=>rfl
  | false =>
   have:0<=z:=h0 he;show (!false && decide (z<0))=false;simp; omega
theorem Alf {l:List RowT} {zs:List Int} (h:zs.length=l.length) (h2:∀ i,i<l.length->(rwA l i).2.2=false->0<=at_ 0 zs i) (hz:∀ z ∈ zs,okZ z=true) (hs:sysE l=0):Lb l (zs.map zB)=0:=by
 unfold Lb;rw [if_neg cB,Adk hz,if_neg (by simp),Xp h h2,if_neg (by simp),hs]
theorem Aoj {l:List RowT} {zs:List Int} (h:zs.length=l.length) (hz:∀ z ∈ zs,okZ z=true) (f:RowT->Int):dotN f l (zs.map zB) l.length=dotZ f l zs:=by
 rw [Aa2 h hz _ (Cf _),F2,Dc aA]
theorem Ah6 {l:List RowT} {zs:List Int} (h:Ti l zs) (hz:∀ z ∈ zs,okZ z=true) (hs:sysE l=0):N0 l (zs.map zB)=true:=by
 unfold N0 Xf N4 sumF;rw [Alf h.len h.nn hz hs];simp only [Aoj h.len hz,Ci,decide_eq_true_eq,C4];exact ⟨trivial,h.pos,fun v _=>h.zero v⟩
def dotR (f:RowT->Rat):List RowT->List Int->Rat
 | r :: l,z :: zs=>(z:Rat)*f r+dotR f l zs
 | _,_=>0
theorem Afw {f:RowT->Rat} : ∀ {a b:List RowT} {xs ys:List Int},xs.length=a.length->dotR f (a++b) (xs++ys)=dotR f a xs+dotR f b ys
 | [],b,[],ys,_=>by simp only [Cz,dotR]; grind
 | r :: a,b,x :: xs,ys,h=>by
  rw [Cp,Cp,dotR,dotR,Afw aI]; grind
 | [],_,_ :: _,_,h=>aO
 | _ :: _,_,[],_,h=>aO
theorem Aln {v:ByteArray->Rat} : ∀ {l:List RowT} {zs:List Int},zs.length=l.length->(∀ i,i<l.length->(rwA l i).2.2=false->0<=at_ 0 zs i)->Sat v l->dotR (valR v) l zs<=0
 | [],zs,_,_,_=>by cases zs <;> simp only [dotR] <;> exact S5
 | _ :: _,[],h,_,_=>aO
 | r :: l,z :: zs,h,h2,hs=>by
  have ih:=Aln (l:=l) (zs:=zs) aI (fun i hi he=>h2 (i+1) dF he) fun x hx=>hs x (Co _ hx);have h0:=hs r (Cq ..);rw [dotR];cases he:r.2.2 with
  | true=>rw [h0.2 he]; grind
  | false =>
   have hz:0<=z:=h2 0 (by simp) he;have ev:(0:Rat)<=(z:Rat):=Rat.intCast_nonneg.2 hz;have:=O5 ev (show 0<=- valR v r by have:=h0.1; grind);grind
def sumV (v:ByteArray->Rat) (g:ByteArray->Int):List ByteArray->Rat
 | []=>0
 | s :: l=>((g s:Int):Rat)*v s+sumV v g l
theorem Zs {v:ByteArray->Rat} {g h:ByteArray->Int} : ∀ {l:List ByteArray},sumV v (fun s=>g s+h s) l=sumV v g l+sumV v h l
 | []=>by simp only [sumV]; grind
 | s :: l=>by rw [sumV,sumV,sumV,Zs,Ox]; grind
theorem Ahh {v:ByteArray->Rat} {g:ByteArray->Int} {z:Int} : ∀ {l:List ByteArray},sumV v (fun s=>z*g s) l=(z:Rat)*sumV v g l
 | []=>by simp only [sumV]; grind
 | s :: l=>by rw [sumV,sumV,Ahh,Cv]; grind
theorem Xu {v:ByteArray->Rat} {g h:ByteArray->Int} : ∀ {l:List ByteArray},(∀ s ∈ l,g s=h s)->sumV v g l=sumV v h l
 | [],_=>rfl
 | s :: l,e=>by rw [sumV,sumV,e s (Cq ..),Xu fun x hx=>e x (Co _ hx)]
theorem Lv {v:ByteArray->Rat} {g:ByteArray->Int} {l:List ByteArray} (h:∀ s ∈ l,g s=0):sumV v g l=0:=by
 induction l with
 | nil=>rfl
 | cons s l ih =>
  have h0:((0:Int):Rat)=0:=rfl;rw [sumV,h s (Cq ..),ih fun x hx=>h x (Co _ hx),h0]; grind
theorem Ahi {v:ByteArray->Rat} {c:ByteArray × Int} : ∀ {l:List ByteArray},l.Pairwise (·≠·)->c.1 ∈ l->sumV v (fun s=>if s=c.1 then c.2 else 0) l=((c.2:Int):Rat)*v c.1
 | [],_,h=>aT
 | s :: l,hp,h=>by
  have fk:=Fz.1 hp;have h0:((0:Int):Rat)=0:=rfl;rw [sumV];by_cases e:s=c.1
  ·rw [if_pos e,Lv fun x hx=>if_neg fun e'=>fk.1 x hx (e.trans e'.symm),e]; grind
  ·rw [if_neg e,h0,Ahi fk.2 ((C6.1 h).resolve_left fun e'=>e e'.symm)]; grind
theorem Axd {l:List ByteArray} (h:Inc l):l.Pairwise (·≠·):=by
 refine jF.imp ?_ h;intro a b hab e;subst e;exact iM _ hab
theorem Ab2 {v:ByteArray->Rat} {vs:List ByteArray} (hv:Inc vs):∀ {cs:List (ByteArray × Int)},IncC cs->(∀ c ∈ cs,c.1 ∈ vs)->linV v cs=sumV v (Gw cs) vs
 | [],_,_=>by rw [Lv (g:=Gw []) fun _ _=>rfl]; rfl
 | c :: cs,hi,hm=>by
  have hp:=Fz.1 (show (c.1 :: cs.map (·.1)).Pairwise (fun a b=>nm a<nm b) from hi);have rj:∀ c' ∈ cs,c'.1≠c.1:=fun c' hc e=>by
   have:=hp.1 c'.1 (Fg.2 ⟨c',hc,rfl⟩);rw [e] at this;exact Ya2u
  have e:∀ s ∈ vs,Gw (c :: cs) s=(if s=c.1 then c.2 else 0)+Gw cs s:=fun s _=>by
   rw [Gw];by_cases h:s=c.1
   ·subst h; rw [if_pos (P0.2 rfl),if_pos rfl,Ty rj]; omega
   ·rw [if_neg fun h'=>h (P0.1 h').symm,if_neg h]; omega
  rw [Xu e,Zs,Ahi (Axd hv) (hm c (Cq ..)),linV,Ab2 hv hp.2 fun c' hc=>hm c' (Co _ hc)]
theorem T5 {v:ByteArray->Rat} {vs:List ByteArray} (hv:Inc vs):∀ {l:List RowT} {zs:List Int},(∀ r ∈ l,IncC r.1/\∀ c ∈ r.1,c.1 ∈ vs)->dotR (valR v) l zs=sumV v (fun s=>dotZ (fun r=>Gw r.1 s) l zs) vs+((dotZ (fun r=>r.2.1) l zs:Int):Rat)
 | [],zs,_=>by
  have h0:((0:Int):Rat)=0:=rfl;cases zs <;> simp only [dotR,dotZ,h0] <;> rw [Lv fun _ _=>rfl] <;> grind
 | r :: l,[],_=>by
  have h0:((0:Int):Rat)=0:=rfl;simp only [dotR,dotZ,h0]; rw [Lv fun _ _=>rfl]; grind
 | r :: l,z :: zs,h=>by
  have h1:=h r (Cq ..);have ih:=T5 (v:=v) hv (l:=l) (zs:=zs) fun x hx=>h x (Co _ hx);rw [dotR,ih,valR,Ab2 hv h1.1 h1.2];simp only [dotZ];rw [Zs,Ahh,Ox,Cv]; grind
def outF (f:ByteArray->Int):List ByteArray->List (ByteArray × Int)
 | []=>[]
 | v :: vs=>if f v=0 then outF f vs else (v,f v) :: outF f vs
theorem Y8 {f:ByteArray->Int} : ∀ {l m:List ByteArray},outF f (l++m)=outF f l++outF f m
 | [],_=>rfl
 | v :: l,m=>by
  rw [Cp,outF,outF,Y8];split <;> rfl
theorem Po {f:ByteArray->Int} : ∀ {l:List ByteArray},(outF f l).length<=l.length
 | []=>Cf _
 | v :: l=>by
  have:=Po (f:=f) (l:=l);rw [outF];split <;> simp <;> omega
theorem U9 {f:ByteArray->Int} {v:ByteArray->Rat} : ∀ {l:List ByteArray},linV v (outF f l)=sumV v f l
 | []=>rfl
 | s :: l=>by
  have h0:((0:Int):Rat)=0:=rfl;rw [outF,sumV];split
  ·rename_i h; rw [h,h0,U9]; grind
  ·rw [linV,U9]
def At4 (a:List RowT) (zs:List Int):RowT:=(outF (fun v=>dotZ (fun r=>Gw r.1 v) a zs) (varsF a),dotZ (fun r=>r.2.1) a zs,false)
theorem Acq {l:List RowT} (h:sysE l=0):∀ r ∈ l,IncC r.1:=fun r hr=>Tw (Ho (D8 h).2.2.2 r hr)
theorem Aqb {a:List RowT} {zs:List Int} (h:sysE a=0) (v:ByteArray->Rat):valR v (At4 a zs)=dotR (valR v) a zs:=by
 rw [T5 (Te a) fun r hr=>⟨Acq h r hr,fun c hc=>H6 r hr c hc⟩];unfold valR At4;simp only;rw [U9]
theorem Aqt {a b:Int} (ha:inB a=true) (hb:inB b=true):gcdS a b ∣ a/\gcdS a b ∣ b:=by
 unfold gcdS;rw [M7 ha,M7 hb];refine ⟨?_,?_⟩
 ·have:((Int.gcd (a.natAbs:Int) (b.natAbs:Int):Nat):Int) ∣ (a.natAbs:Int):=Int.gcd_dvd_left ..;exact Int.dvd_natAbs.1 this
 ·have:((Int.gcd (a.natAbs:Int) (b.natAbs:Int):Nat):Int) ∣ (b.natAbs:Int):=Int.gcd_dvd_right ..;exact Int.dvd_natAbs.1 this
theorem Aga:∀ {cs:List (ByteArray × Int)} {g:Int},(∀ c ∈ cs,inB c.2=true/\c.2≠0)->inB g=true->gcdL g cs ∣ g/\∀ c ∈ cs,gcdL g cs ∣ c.2
 | [],g,_,_=>⟨Int.dvd_refl _,fun c h=>aT⟩
 | c :: cs,g,h,hg=>by
  obtain ⟨h1,h2⟩:=h c (Cq ..);obtain ⟨i1,i2⟩:=Aga (cs:=cs) (g:=gcdS g c.2) (fun x hx=>h x (Co _ hx)) (Yw hg h1 h2);obtain ⟨d1,d2⟩:=Aqt hg h1;refine ⟨Int.dvd_trans i1 d1,fun x hx=>?_⟩;rcases C6.1 hx with rfl|hx
  ·exact Int.dvd_trans i1 d2
  ·exact i2 x hx
theorem Agp {v:ByteArray->Rat} {g:Int} (hg:g≠0):∀ {cs:List (ByteArray × Int)},(∀ c ∈ cs,g ∣ c.2)->(g:Rat)*linV v (cs.map (divC g))=linV v cs
 | [],_=>by simp only [Ct,linV]; grind
 | c :: cs,h=>by
  have ih:=Agp (v:=v) hg fun x hx=>h x (Co _ hx);obtain ⟨k,hk⟩:=h c (Cq ..);have e:(divC g c).2=k:=by
   show c.2.tdiv g=k;rw [hk,Int.mul_tdiv_cancel_left _ hg]
  rw [Cn,linV,linV,e,<- ih,hk,Cv];show (g:Rat)*((k:Rat)*v c.1+_)=_;grind
theorem Ar2 {cs:List (ByteArray × Int)} {n:Int} (h:Az cs n=0) {v:ByteArray->Rat} (hv:valR v (Gp cs n false)<=0):valR v (cs,n,false)<=0:=by
 obtain ⟨hb,hn,-⟩:=Hj h;have h0:((0:Int):Rat)=0:=rfl;have h1:((1:Int):Rat)=1:=rfl;unfold Gp at hv;rw [if_pos h] at hv;by_cases hc:cs=[]
 ·subst hc;rw [if_pos rfl] at hv;unfold valR linV;split at hv
  ·rename_i hz;have hle:n<=0:=by simp at hz; omega
   have:((n:Int):Rat)<=((0:Int):Rat):=Rat.intCast_le_intCast.2 hle;rw [h0] at this;simp only;grind
  ·unfold valR linV at hv;simp only [h1] at hv;exfalso; grind
 ·rw [if_neg hc,if_neg (by simp)] at hv;have hp:=Yv hb (g:=0) rfl aA (.inr hc);obtain ⟨-,hd⟩:=Aga hb (g:=0) rfl;obtain ⟨g,hg⟩:∃ g,g=gcdL 0 cs:=⟨_,rfl⟩;rw [<- hg] at hp hd hv;have e:=Agp (v:=v) (show g≠0 by omega) hd;have hcl:n<=g*-((-n) / g):=by
   have:=Int.mul_ediv_self_le (x:=-n) (k:=g) aA;rw [Int.mul_neg]; omega
  have pp:((n:Int):Rat)<=(g:Rat)*((-((-n) / g):Int):Rat):=by rw [<- Cv]; exact Rat.intCast_le_intCast.2 hcl
  have hgr:(0:Rat)<=(g:Rat):=Rat.intCast_nonneg.2 aA;unfold valR at hv ⊢;simp only at hv ⊢;have:=O5 hgr (show 0<=-(linV v (cs.map (divC g))+((-((-n) / g):Int):Rat)) by grind);grind
theorem Ah3 {a b:List RowT} {xs ys:List Int} (hc:Ti (a++b) (xs++ys)) (hx:xs.length=a.length) (hs:sysE (a++b)=0) (ha:sysE a=0) {v:ByteArray->Rat} (hb:Sat v b):¬ valR v (At4 a xs)<=0:=by
 intro h;have hy:ys.length=b.length:=by have:=hc.len; simp at this; omega
 have aq:=T5 (v:=v) (Te (a++b)) (l:=a++b) (zs:=xs++ys) fun r hr=>⟨Acq hs r hr,fun c hc=>H6 r hr c hc⟩;rw [Lv fun s _=>hc.zero s,Afw hx,<- Aqb ha] at aq;have hb2:=Aln hy (fun i hi he=>?_) hb
 ·have hp:(0:Rat)<((dotZ (fun r=>r.2.1) (a++b) (xs++ys):Int):Rat):=Qm.2 hc.pos;grind
 ·have e1:rwA (a++b) (a.length+i)=rwA b i:=by
   unfold rwA at_;rw [Ae,Ae,C3 aA,Nat.add_sub_cancel_left]
  have e2:at_ 0 (xs++ys) (a.length+i)=at_ 0 ys i:=by
   unfold at_;rw [Ae,Ae,C3 aA,hx,Nat.add_sub_cancel_left]
  rw [<- e2];exact hc.nn _ aC (by rw [e1]; exact he)
theorem Aok {a b:List RowT} (h:sysE (a++b)=0):sysE a=0:=by
 obtain ⟨-,f2,f3,f4⟩:=D8 h;have ha:=Ho f4;refine Ayj (by simp at f2; omega) (fun x hx=>ha x (Cw.2 (.inl hx))) ?_;refine Fe (Aun (Te a) (Te (a++b)) fun x hx=>?_) f3;obtain ⟨r',hr,hc⟩:=Agt.1 hx;exact Agt.2 ⟨r',Cw.2 (.inl hr),hc⟩
theorem Yt {l:List RowT} {r:RowT} (h:Hz l r=true):Az r.1 r.2.1=0:=(Pa.1 h).1
theorem Aid {l:List RowT} {r:RowT} (h:Hz l r=true) {v:ByteArray->Rat} (hs:Sat v l):valR v r<1:=by
 obtain ⟨hc,f1,-⟩:=Pa.1 h;obtain ⟨-,g⟩:=Aqd (.inr rfl) hc f1;have e:(((-1:Int)):Rat)=-1:=rfl;refine Od fun hn=>g ⟨v,hs,?_⟩;rw [e]; grind
end
section
open Go Go.Proofs.Tryz
section
variable (S:List Ent) (tk:List Nat) (k:Nat)
theorem Aw2 (z:Int):(cmpZ z 0 == 0)=decide (z=0):=by
 have h:=Aw5 z;rw [show (cmpZ z 0 != 0)=!(cmpZ z 0 == 0) from rfl] at h;exact Bool.not_inj h
theorem Ad5 (m:BigT) (hm:m.2.length<=1000000):cL prog 86 [.agg (bigC m)] S tk k=some (.bool (decide (vB m=0)),S,tk,k):=by
 have hC S tk k:=told (E:=E1) (Ae4 S tk k m.1 m.2 hm);have hc:=Aw2 (V m.1 m.2);simp only [bigA,digA] at hC;refine opP func86 ntmps86 ?_;simp (maxSteps:=10^6)+contextual(disch:=try exact dqd)only[ev1,simprocAttr,Cc,Ca,Cd,results86,bigC,hC,hc];rfl
end
theorem Ahe (s:ByteArray):sEq s s=true:=by rw [Pz]; simp
theorem Ad7:∀ {l:List ByteArray} {i j:Nat} {a b:ByteArray},Inc l->nth l i=some a->nth l j=some b->i<j->sLt a b=true
 | x :: l,0,j+1,a,b,h,ha,hb,_=>by
  simp only [nth,A3] at ha;subst ha;rw [Xo];have:=(Fz.1 h).1 b (Ei (i:=j) hb);exact Ya1f
 | x :: l,i+1,j+1,a,b,h,ha,hb,hij=>Ad7 (Fz.1 h).2 (i:=i) (j:=j) ha hb aA
 | x :: l,i+1,0,a,b,h,ha,hb,hij=>aA
 | [],_,_,_,_,_,ha,_,_=>by simp [nth] at ha
theorem Axm (s:ByteArray):sLt s s=false:=by rw [Xo]; simp [iM]
theorem Auu {a b:ByteArray} (h:sLt a b=true):sLt b a=false:=by
 rw [Xo] at h ⊢;simp only [decide_eq_true_eq,decide_eq_false_iff_not] at h ⊢;exact fun h2=>iM _ (List.lt_trans h h2)
theorem Aqw {l:List ByteArray} {i j:Nat} {a b:ByteArray} (h:Inc l) (ha:nth l i=some a) (hb:nth l j=some b):sLt a b=decide (i<j):=by
 rcases Ou i j with h1|h1|h1
 ·rw [Ad7 h ha hb h1]; simp [h1]
 ·subst h1; rw [ha] at hb; cases hb; rw [Axm]; simp
 ·rw [Auu (Ad7 h hb ha h1)]; have:¬ i<j:=aA
  simp [this]
section
variable (S:List Ent) (tk:List Nat) (k:Nat)
theorem Ak5 (s:ByteArray):cL prog 131 [.prim (.string s)] S tk k=some (.bool false,S,tk,k):=by
 refine opP func131 ntmps131 ?_;simp (maxSteps:=10^6)+contextual(disch:=try exact dqd)only[ev1,simprocAttr,Cc,Ca,Cd,results131,strC,Ahe,F5]
theorem Ap7 (s t:ByteArray):cL prog 96 [.prim (.string s),.prim (.string t)] S tk k=some (.bool (sLt s t),S,tk,k):=by
 have hN S tk k:=Ak5 S tk k s;refine opP func96 ntmps96 ?_;simp (maxSteps:=10^6)+contextual(disch:=try exact dqd)only[ev1,simprocAttr,Cc,Ca,Cd,results96,strC,hN]
theorem Z0 (vs:List ByteArray) (s:ByteArray) (q:Nat) (a1q:Inc vs) (hq:nth vs q=some s) (hl:vs.length<=1000):cL prog 56 [Bc vs,.prim (.string s)] S tk k=some (.tup [.int (q:Nat),.bool true],S,tk,k):=by
 have hqn:=A8 hq;refine opP func56 ntmps56 ?_;simp (maxSteps:=10^6)+contextual(disch:=try exact dqd)only[ev1,simprocAttr,Cc,Ca,Cd,results56,Bc];refine loop1 (P:=prog) (fun x st=>st.T.length=54/\(x.1<=q)/\(q<=x.2)/\(x.2<=vs.length)/\getT st.T 0=Bc vs/\getT st.T 1=.prim (.string s)/\getT st.T 6=.int vs.length/\getT st.T 7=.int (x.1:Nat)/\getT st.T 8=.int (x.2:Nat)/\st.S=[]) (fun x=>x.2 - x.1) (fun x=>.tup [.int (q:Nat),.bool true]) (0,vs.length) ?_ ?_;case refine_2=>exact ⟨rfl,Cl _,aA,Cf _,rfl,rfl,rfl,rfl,rfl,rfl⟩
 rintro ⟨i,j⟩ ⟨T,S',tk',n'⟩ ⟨hl,hi,hj,hjn,e0,e1,e6,e7,e8,eS⟩ IH;simp only at hi hj hjn e0 e1 e6 e7 e8 eS;subst eS;obtain ⟨g,hg,hT⟩:=Ao hl;rw [hg] at e0 e1 e6 e7 e8;subst hT;clear hg hl;by_cases hlt:i<j
 ·have d1:decide ((i:Int)<(j:Int))=true:=aH
  obtain ⟨h,hh⟩:∃ h,h=(i+j) / 2:=⟨_,rfl⟩;have v1:Ce.wrap ((i:Int)+(j:Int))=((i+j:Nat):Int):=aP
  have v2:S6.wrap ((i+j:Nat):Int)=((i+j:Nat):Int):=by rw [P5 aA aA]
  have w3:((i+j:Nat):Int).fdiv 2=(h:Int):=by
   rw [Int.fdiv_eq_ediv_of_nonneg _ aA]; omega
  have w6:(S6.bits=64)=True:=eq_true rfl;have w4:S6.wrap (h:Int)=(h:Int):=by rw [P5 aA aA]
  have w5:Ce.wrap (h:Int)=(h:Int):=by rw [Aa aD]
  have bz:=Ar (i:=h) aA;obtain ⟨a,ha⟩:=Ab (show h<vs.length by omega);have ha':=Aei ha;have hL S tk k:=Ap7 S tk k a s;rw [Aqw a1q ha hq] at hL;by_cases hc:h<q
  ·have d2:decide (h<q)=true:=dJ
   rw [d2] at hL;simp (maxSteps:=10^6)+contextual(disch:=try exact dqd)only[ev1,simprocAttr,Cc,Ca,Cd,results56,e0,e1,e6,e7,e8,d1,Bc,v1,v2,w3,w4,w5,w6,bz,ha',hL];exact IH (h+1,j) _ aF ⟨rfl,aE,hj,hjn,aG,aG,aG,aG,aG,aG⟩
  ·have d2:decide (h<q)=false:=dJ
   rw [d2] at hL;simp (maxSteps:=10^6)+contextual(disch:=try exact dqd)only[ev1,simprocAttr,Cc,Ca,Cd,results56,e0,e1,e6,e7,e8,d1,Bc,v1,v2,w3,w4,w5,w6,bz,ha',hL];exact IH (i,h) _ aF ⟨rfl,hi,aE,aE,aG,aG,aG,aG,aG,aG⟩
 ·have d1:decide ((i:Int)<(j:Int))=false:=aH
  have fm:i=q:=aA
  subst fm;have m9:=Aei hq;have d2:decide ((i:Int)<(vs.length:Int))=true:=by simpa using hqn
  have hse:=Ahe s;simp (maxSteps:=10^6)+contextual(disch:=try exact dqd)only[ev1,simprocAttr,Cc,Ca,Cd,results56,e0,e1,e6,e7,e8,d1,d2,Bc,m9,hse]
end
def pVal (m:BigT):Bool:=D6 m.1 m.2
def Rk (m:BigT):Bool:=decide (vB m=0)
def idxB (p:BigT->Bool):List BigT->Nat->Int × Nat
 | [],_=>(-1,0)
 | m :: r,i=>if p m=true then ((idxB p r (i+1)).1,(idxB p r (i+1)).2+1) else (i,1)
theorem Amc (p:BigT->Bool):∀ (l:List BigT) (i:Nat),decide ((idxB p l i).1 >= 0)=!(l.all p)
 | [],_=>rfl
 | m :: r,i=>by
  have ih:=Amc p r (i+1);unfold idxB;cases h:p m with
  | true=>rw [if_pos rfl]; simp only [Oh,h,G2]; exact ih
  | false=>rw [if_neg (by simp)]; simp only [Oh,h,F4,Fw]; simp
section
variable (S:List Ent) (tk:List Nat) (k:Nat)
theorem Aj3 (m:BigT) (hm:m.2.length<=1000000):cL prog 51 [.agg (bigC m)] S tk k=some (.bool (pVal m),S,tk,k):=told (E:=E1) (J3 S tk k m.1 m.2 .unk hm)
theorem Apu (m:BigT) (hm:m.2.length<=1000000):cL prog 86 [.agg (bigC m)] S tk k=some (.bool (Rk m),S,tk,k):=Ad5 S tk k m hm
theorem Aae (m:BigT) (id ep:Nat) (hm:m.2.length<=1000000) (h:entAt S id ep=some [.fn 51 []]):cL prog 93 [.agg (bigC m),.ref id ep 0] S tk k=some (.bool (!pVal m),S,tk,k+1):=by
 have hF S tk k:=Aj3 S tk k m hm;exact Ya0l
theorem Ya (ms:List BigT) (id ep:Nat) (hl:ms.length<=1048576) (hm:∀ m ∈ ms,m.2.length<=1000000) (h:entAt S id ep=some [.fn 51 []]) :
  cL prog 130 [A7 ms,.fn 93 [.ref id ep 0]] S tk k=some (.int (idxB pVal ms 0).1,S,tk,k+(idxB pVal ms 0).2):=by
 refine opS func130 ntmps130 ?_;simp (maxSteps:=10^6)+contextual(disch:=try exact dqd)only[evs1,simprocAttr,Cc,Ca,Cd,results130,A7];refine Pj (P:=prog) (fun x st=>st.T.length=19/\x.1<=ms.length/\getT st.T 0=A7 ms/\getT st.T 1=.fn 93 [.ref id ep 0]/\getT st.T 7=.int ms.length/\getT st.T 8=.int (x.1:Nat)/\st.S=S/\st.tk=tk/\st.n=x.2) (fun x=>ms.length - x.1)
  (fun x=>(.int (idxB pVal (ms.drop x.1) x.1).1,S,tk,x.2+(idxB pVal (ms.drop x.1) x.1).2)) (0,k) ?_ ?_
 case refine_2=>exact ⟨rfl,Cl _,rfl,rfl,rfl,rfl,rfl,rfl,rfl⟩
 rintro ⟨i,m⟩ ⟨T,S',tk',n'⟩ ⟨hl,hi,e0,e1,e7,e8,eS,eT,eN⟩ IH;simp only at eS eT eN;subst eS eT eN;obtain ⟨g,hg,hT⟩:=Ao hl;rw [hg] at e0 e1 e7 e8;subst hT;clear hg hl;simp only at hi e8;by_cases hlt:i<ms.length
 ·have d1:decide ((i:Int)<(ms.length:Int))=true:=aH
  obtain ⟨m,hc⟩:=Ab hlt;have bp:=Qo hc;have hw:=Ar (i:=i) aA;have hf k:=Aae S' tk' k m id ep (hm m (Ei hc)) h;simp only [bigC] at hf bp;rw [Au hc];cases h1:pVal m with
  | true =>
   exact Yax
  | false =>
   exact Ya0f
 ·exact Ya01
theorem X9 (ms:List BigT) (id ep:Nat) (hl:ms.length<=1000000) (hm:∀ m ∈ ms,m.2.length<=1000000) (h:entAt S id ep=some [.fn 51 []]) :
  cL prog 92 [A7 ms,.fn 93 [.ref id ep 0]] S tk k=some (.bool (!(ms.all pVal)),S,tk,k+(idxB pVal ms 0).2):=by
 have hI:=Ya S tk k ms id ep aA hm h;have iy:=Amc pVal ms 0;exact Ya0o
theorem Aj7 (ms:List BigT) (hl:ms.length<=1000000) (hm:∀ m ∈ ms,m.2.length<=1000000):cL prog 50 [A7 ms,.fn 51 []] S tk k=some (.bool (ms.all pVal),S,tk,k):=by
 have hA tk k ep:=X9 [⟨ep,[.fn 51 []]⟩] tk k ms 0 ep hl hm Za5b;exact Ya0g
theorem Adl (m:BigT) (id ep:Nat) (hm:m.2.length<=1000000) (h:entAt S id ep=some [.fn 86 []]):cL prog 93 [.agg (bigC m),.ref id ep 0] S tk k=some (.bool (!Rk m),S,tk,k+1):=by
 have hF S tk k:=Apu S tk k m hm;exact Ya0l
theorem Aag (ms:List BigT) (id ep:Nat) (hl:ms.length<=1048576) (hm:∀ m ∈ ms,m.2.length<=1000000) (h:entAt S id ep=some [.fn 86 []]) :
  cL prog 130 [A7 ms,.fn 93 [.ref id ep 0]] S tk k=some (.int (idxB Rk ms 0).1,S,tk,k+(idxB Rk ms 0).2):=by
 refine opS func130 ntmps130 ?_;simp (maxSteps:=10^6)+contextual(disch:=try exact dqd)only[evs1,simprocAttr,Cc,Ca,Cd,results130,A7];refine Pj (P:=prog) (fun x st=>st.T.length=19/\x.1<=ms.length/\getT st.T 0=A7 ms/\getT st.T 1=.fn 93 [.ref id ep 0]/\getT st.T 7=.int ms.length/\getT st.T 8=.int (x.1:Nat)/\st.S=S/\st.tk=tk/\st.n=x.2) (fun x=>ms.length - x.1)
  (fun x=>(.int (idxB Rk (ms.drop x.1) x.1).1,S,tk,x.2+(idxB Rk (ms.drop x.1) x.1).2)) (0,k) ?_ ?_
 case refine_2=>exact ⟨rfl,Cl _,rfl,rfl,rfl,rfl,rfl,rfl,rfl⟩
 rintro ⟨i,m⟩ ⟨T,S',tk',n'⟩ ⟨hl,hi,e0,e1,e7,e8,eS,eT,eN⟩ IH;simp only at eS eT eN;subst eS eT eN;obtain ⟨g,hg,hT⟩:=Ao hl;rw [hg] at e0 e1 e7 e8;subst hT;clear hg hl;simp only at hi e8;by_cases hlt:i<ms.length
 ·have d1:decide ((i:Int)<(ms.length:Int))=true:=aH
  obtain ⟨m,hc⟩:=Ab hlt;have bp:=Qo hc;have hw:=Ar (i:=i) aA;have hf k:=Adl S' tk' k m id ep (hm m (Ei hc)) h;simp only [bigC] at hf bp;rw [Au hc];cases h1:Rk m with
  | true =>
   exact Yax
  | false =>
   exact Ya0f
 ·exact Ya01
theorem Aaf (ms:List BigT) (id ep:Nat) (hl:ms.length<=1000000) (hm:∀ m ∈ ms,m.2.length<=1000000) (h:entAt S id ep=some [.fn 86 []]) :
  cL prog 92 [A7 ms,.fn 93 [.ref id ep 0]] S tk k=some (.bool (!(ms.all Rk)),S,tk,k+(idxB Rk ms 0).2):=by
 have hI:=Aag S tk k ms id ep aA hm h;have iy:=Amc Rk ms 0;exact Ya0o
theorem Apx (ms:List BigT) (hl:ms.length<=1000000) (hm:∀ m ∈ ms,m.2.length<=1000000):cL prog 50 [A7 ms,.fn 86 []] S tk k=some (.bool (ms.all Rk),S,tk,k):=by
 have hA tk k ep:=Aaf [⟨ep,[.fn 86 []]⟩] tk k ms 0 ep hl hm Za5b;exact Ya0g
end
theorem Awq (P:Program) [Globs] [Ext P] {f:FuncId} {p q:Bool} {l r:List Int} {c:Bool} {S:List Ent} {tk:List Nat} {k:Nat} (hx:(Ext.on P f || Ext.mv P f)=false) :
  cL P f [.agg [.prim (.bool p),.frz (l.map digC) (Vc c)],bigA q r] S tk k=cL P f [bigA p l,bigA q r] S tk k:=Wa rfl rfl hx
section
variable (tk:List Nat) (k:Nat)
theorem Awo (c0:List AV) (a0 a1 a2 a3 a4 a5:Nat) (c4 c5:List AV) (outs:List (Bool × Int)) (i:Nat) (c:Bool) (z n:Int) (m:BigT) (hx:nth outs i=some (c,z)) (hz:okZ z=true) (hm:m.2.length<=100) (hn:i64 n) (h2:okZ (z+vB m*n)=true) :
  cL prog 52 [.int (i:Nat),.agg (bigC m),.int n,.ref 2 a2 0,.ref 3 a3 0] (⟨a0,c0⟩ :: ⟨a1,ownS outs⟩ :: ⟨a2,[.sref 1 a1 0 outs.length 2]⟩ :: ⟨a3,[.bool true]⟩ :: [⟨a4,c4⟩,⟨a5,c5⟩]) tk k=some (.tup [],(⟨a0,c0⟩ :: ⟨a1,ownS (outs.set i (false,z+vB m*n))⟩ :: ⟨a2,[.sref 1 a1 0 outs.length 2]⟩ :: ⟨a3,[.bool true]⟩ :: [⟨a4,c4⟩,⟨a5,c5⟩]),tk,k+3):=by
 exact Ya5
theorem Apv (c0:List AV) (a0 a1 a2 a3 a4 a5:Nat) (c4 c5:List AV) (outs:List (Bool × Int)) (i:Nat) (c:Bool) (z n:Int) (m:BigT) (hx:nth outs i=some (c,z)) (hz:okZ z=true) (hm:m.2.length<=100) (hn:i64 n) (h2:okZ (z+vB m*n)=true) :
  cL prog 52 [.int (i:Nat),.agg (bigC m),.int n,.ref 2 a2 0,.ref 3 a3 0] (⟨a0,c0⟩ :: ⟨a1,ownS outs⟩ :: ⟨a2,[.sref 1 a1 0 outs.length 2]⟩ :: ⟨a3,[.bool true]⟩ :: [⟨a4,c4⟩]) tk k=some (.tup [],(⟨a0,c0⟩ :: ⟨a1,ownS (outs.set i (false,z+vB m*n))⟩ :: ⟨a2,[.sref 1 a1 0 outs.length 2]⟩ :: ⟨a3,[.bool true]⟩ :: [⟨a4,c4⟩]),tk,k+3):=by
 exact Ya5
end
end
section
open Go
def sumC (s:ByteArray):List (ByteArray × Int)->Int
 | []=>0
 | c :: cs=>(if c.1=s then c.2 else 0)+sumC s cs
theorem V1 (s:ByteArray) (c:ByteArray × Int):∀ cs:List (ByteArray × Int),sumC s (cs++[c])=sumC s cs+(if c.1=s then c.2 else 0)
 | []=>by simp [sumC]
 | d :: cs=>by simp only [Cp,sumC,V1 s c cs]; omega
theorem Acy {s:ByteArray} : ∀ {cs:List (ByteArray × Int)},(∀ c ∈ cs,c.1≠s)->sumC s cs=0
 | [],_=>rfl
 | c :: cs,h=>by rw [sumC,if_neg (h c (by simp)),Acy fun x hx=>h x bJ]; rfl
theorem V0 (s:ByteArray):∀ {cs:List (ByteArray × Int)},IncC cs->sumC s cs=Gw cs s
 | [],_=>rfl
 | c :: cs,h=>by
  have h1:=Fz.1 (show (c.1 :: cs.map (·.1)).Pairwise (fun a b=>nm a<nm b) from h);rw [sumC,Gw,Pz];by_cases hc:c.1=s
  ·rw [if_pos hc,if_pos dJ,Acy]
   ·omega
   ·intro x hx ur;have:=h1.1 x.1 (Fg.2 ⟨x,hx,rfl⟩);rw [ur,<- hc] at this;exact Ya2u
  ·rw [if_neg hc,if_neg dJ,V0 s (cs:=cs) h1.2]; omega
theorem map_set {g g':ByteArray->Int} {s:ByteArray} (hg:∀ v,v≠s->g' v=g v):∀ {vs:List ByteArray} {q:Nat},Inc vs->nth vs q=some s->(vs.map g).set q (g' s)=vs.map g'
 | [],_,_,h=>bP
 | a :: vs,0,hi,h=>by
  simp only [nth,A3] at h;subst h;have h1:=Fz.1 hi;simp only [Cn,List.set_cons_zero,gY,true_and];refine I8 fun v hv=>(hg v fun he=>?_).symm;have:=h1.1 v hv;rw [he] at this;exact Ya2u
 | a :: vs,q+1,hi,h=>by
  have h1:=Fz.1 hi;have hs:s ∈ vs:=Ei (i:=q) h;have ha:a≠s:=fun he=>by
   have:=h1.1 s hs;rw [he] at this;exact Ya2u
  simp only [Cn,Si,hg a ha,map_set hg h1.2 (show nth vs q=some s from h)]
theorem Avv {l:List RowT} {r:RowT} {c:ByteArray × Int} (hr:r ∈ l) (hc:c ∈ r.1):c.1 ∈ varsF l:=by
 refine ((Ji (D7 l)).2.1 c.1).2 ?_;unfold D7;rw [Se];exact ⟨r.1.map (·.1),Fg.2 ⟨r,hr,rfl⟩,Fg.2 ⟨c,hc,rfl⟩⟩
def valP (l:List RowT) (ms:List BigT) (m:BigT) (r:RowT) (i j:Nat) (v:ByteArray):Int:=Adu l ms v i+vB m*sumC v (r.1.take j)
theorem Ao0 (l:List RowT) (ms:List BigT) (m:BigT) (r:RowT) (i:Nat) (v:ByteArray):valP l ms m r i 0 v=Adu l ms v i:=by simp [valP,sumC]
theorem Ac8 {l:List RowT} {ms:List BigT} {m:BigT} {r:RowT} {i j:Nat} {c:ByteArray × Int} (h:nth r.1 j=some c):valP l ms m r i (j+1) c.1=valP l ms m r i j c.1+vB m*c.2:=by
 rw [valP,valP,Db h,V1,if_pos rfl,Ir]; omega
theorem Ajg {l:List RowT} {ms:List BigT} {m:BigT} {r:RowT} {i j:Nat} {c:ByteArray × Int} (h:nth r.1 j=some c) (v:ByteArray) (hv:v≠c.1):valP l ms m r i (j+1) v=valP l ms m r i j v:=by
 rw [valP,valP,Db h,V1,if_neg fun h=>hv h.symm,O2]
theorem Ar6 {l:List RowT} {ms:List BigT} {m:BigT} {r:RowT} {i:Nat} (h1:nth l i=some r) (h2:nth ms i=some m) (hi:IncC r.1) (v:ByteArray):valP l ms m r i r.1.length v=Adu l ms v (i+1):=by
 rw [valP,F2,V0 v hi];exact (Ym (f:=fun r=>Gw r.1 v) h1 h2).symm
theorem Aqx {cs:List (ByteArray × Int)} (h:IncC cs) (j:Nat):IncC (cs.take j):=by
 unfold IncC at h ⊢;rw [gS];exact jF.sublist (List.take_sublist _ _) h
theorem Aoz {l:List RowT} {ms:List BigT} {m:BigT} {r:RowT} {i:Nat} (hk:∀ v,∀ r ∈ l,i64 (Gw r.1 v)) (hm:∀ m ∈ ms,m.2.length<=100) (dn:m.2.length<=100) (hi:i<=9000) (dc:IncC r.1) (qd:∀ c ∈ r.1,i64 c.2) (j:Nat) (v:ByteArray):okZ (valP l ms m r i j v)=true:=by
 have h1:=W1 (f:=fun r=>Gw r.1 v) (hk v) hm i;have h2:i64 (sumC v (r.1.take j)):=by
  rw [V0 v (Aqx dc j)];exact Yf (fun c hc=>qd c (Su hc)) v
 have a:=X7 m.1 m.2 dn;have b:(sumC v (r.1.take j)).natAbs<10000 ^ 5:=by unfold i64 at h2; omega
 have c:=Am2 a b;refine Anh (i:=i+1) aA ?_;unfold valP Adu vB;rw [Oc];generalize V m.1 m.2*sumC v (r.1.take j)=t at *;generalize dotN (fun r=>Gw r.1 v) l ms i=s at *;generalize 10000 ^ (100+5)=u at *;generalize i*u=w at *;omega
end
section
open Go Go.Proofs.Tryz
set_option maxHeartbeats 1000000
set_option maxRecDepth 100000
def Zz (l:List RowT) (ms:List BigT) (i:Nat):List Int:=(varsF l).map (fun v=>Adu l ms v i)++[constD l ms i]
def Aof (l:List RowT):List (Bool × Int):=Cg ((varsF l).length+1) (true,0)
theorem Ao1 (l:List RowT) (ms:List BigT):(Aof l).map (·.2)=Zz l ms 0:=by
 unfold Zz Aof;rw [iE,jH,<- List.map_const'];rfl
section
variable (S:List Ent) (tk:List Nat) (k:Nat)
theorem Mx (l:List RowT) (ms:List BigT) (dp:∀ r ∈ l,r.1.length<=1048576) (hl1:l.length<=1000000) (hm:∀ m ∈ ms,m.2.length<=100):cL prog 26 [An l,A7 ms] S tk k=some (N3 l ms,S,tk,k):=by
 have hCh S tk k:=G9 S tk k l dp;refine opP func26 ntmps26 (hp3:=Alg _ _) ?_;by_cases hlen:l.length≠ms.length
 ·have d0:((l.length:Int) != (ms.length:Int))=true:=aC
  simp (maxSteps:=10^6)+contextual(disch:=try exact dqd)only[ev1,simprocAttr,Cc,Ca,Cd,results26,dropL_one,dropL_more,lastO_one,lastO_more,An,A7,d0];have hE:Lb l ms=6:=by unfold Lb; rw [if_pos hlen]
  simp only [N3,hE]; rfl
 have ie:l.length=ms.length:=aA
 have d0:((l.length:Int) != (ms.length:Int))=false:=aC
 have hAl S tk k:=Aj7 S tk k ms aA (fun m h=>by have:=hm m h; omega);rw [show ms.all pVal=Nu ms from rfl] at hAl;simp only [A7] at hAl;cases d7:Nu ms with
 | false =>
  rw [d7] at hAl;simp (maxSteps:=10^6)+contextual(disch:=try exact dqd)only[ev1,simprocAttr,Cc,Ca,Cd,results26,dropL_one,dropL_more,lastO_one,lastO_more,An,A7,d0,hAl];have hE:Lb l ms=6:=by unfold Lb; rw [if_neg hlen,d7]; rfl
  simp only [N3,hE]; rfl
 | true =>
 rw [d7] at hAl;simp (maxSteps:=10^6)+contextual(disch:=try exact dqd)only[ev1,simprocAttr,Cc,Ca,Cd,results26,dropL_one,dropL_more,lastO_one,lastO_more,An,A7,d0,hAl];refine loop1 (P:=prog) (fun x st=>st.T.length=125/\(x<=ms.length)/\(J1 l ms=J1 (l.drop x) (ms.drop x))/\getT st.T 0=An l/\getT st.T 1=A7 ms/\getT st.T 4=.frz [] .nilc/\getT st.T 5=.ref 0 0 0/\getT st.T 6=.int 0/\getT st.T 31=An l/\getT st.T 32=.int l.length/\getT st.T 33=.int (x:Nat)/\st.S=[⟨0,[.bool false,.frz [] .nilc]⟩]) (fun x=>ms.length - x) (fun x=>N3 l ms) (0) ?_ ?_;case refine_2=>exact ⟨rfl,Cl _,rfl,rfl,rfl,rfl,rfl,rfl,rfl,rfl,rfl,rfl⟩
 rintro i ⟨T,S',tk',n'⟩ ⟨hl,hi,hE,e0,e1,e4,e5,e6,e31,e32,e33,eS⟩ IH;subst eS;obtain ⟨g,hg,hT⟩:=Ao hl;rw [hg] at e0 e1 e4 e5 e6 e31 e32 e33;subst hT;clear hg hl;have bz:=Ar (i:=i) aA;by_cases hlt:i<ms.length
 ·have d1:decide ((i:Int)<(l.length:Int))=true:=aC
  obtain ⟨m,hx⟩:=Ab hlt;have hx':=Qo hx;obtain ⟨r,hr⟩:=Ab (show i<l.length by omega);have b8:=Jz hr;rw [An9 hr hx] at hE;simp only [bigC] at hx';simp only [rowC,Ag] at b8;cases h0:r.2.2 with
  | true =>
   rw [h0,F5,F4,I5] at hE;simp (maxSteps:=10^6)+contextual(disch:=try exact dqd)only[ev1,simprocAttr,Cc,Ca,Cd,results26,dropL_one,dropL_more,lastO_one,lastO_more,e0,e1,e4,e5,e6,e31,e32,e33,d1,A7,An,hx',b8,bz,h0];exact IH (i+1) _ aF ⟨rfl,aE,hE,aG,aG,aG,aG,aG,aG,aG,aG,aG⟩
  | false =>
   rw [h0,Fw,G2] at hE;cases h1:m.1 with
   | false =>
    rw [h1,I5] at hE;simp (maxSteps:=10^6)+contextual(disch:=try exact dqd)only[ev1,simprocAttr,Cc,Ca,Cd,results26,dropL_one,dropL_more,lastO_one,lastO_more,e0,e1,e4,e5,e6,e31,e32,e33,d1,A7,An,hx',b8,bz,h0,h1];exact IH (i+1) _ aF ⟨rfl,aE,hE,aG,aG,aG,aG,aG,aG,aG,aG,aG⟩
   | true =>
    rw [h1,S8] at hE;simp (maxSteps:=10^6)+contextual(disch:=try exact dqd)only[ev1,simprocAttr,Cc,Ca,Cd,results26,dropL_one,dropL_more,lastO_one,lastO_more,e0,e1,e4,e5,e6,e31,e32,e33,d1,A7,An,hx',b8,bz,h0,h1];have hE:Lb l ms=2:=by unfold Lb; rw [if_neg hlen,d7,hE]; rfl
    simp only [N3,hE]; rfl
 have d1:decide ((i:Int)<(l.length:Int))=false:=aC
 have fm:i=ms.length:=aA
 subst fm;rw [C9,<- ie,C9] at hE;have hsg:J1 l ms=false:=hE;have jq:Lb l ms=sysE l:=by unfold Lb; rw [if_neg hlen,d7,hsg]; rfl
 simp only [An] at hCh;cases j7:(sysE l != 0) with
 | true =>
  simp (maxSteps:=10^6)+contextual(disch:=try exact dqd)only[ev1,simprocAttr,Cc,Ca,Cd,results26,dropL_one,dropL_more,lastO_one,lastO_more,e0,e1,e4,e5,e6,e31,e32,e33,d1,A7,An,hCh,j7];have hne:¬ sysE l=0:=fP
  simp only [N3,jq,if_neg hne]; rfl
 | false =>
 have hs:sysE l=0:=fP
 have hVa S tk k:=Q9 S tk k l hs;simp only [An,Bc] at hVa;have vu:(varsF l).length<=24:=(D8 hs).2.2.1;have hl64:=(D8 hs).2.1;have hvw:=Ar (i:=(varsF l).length) aA;have na:(Ay prog 54).bind (Ep prog)=some 32:=aJ
 have ft:=Axo (P:=prog) (t:=54) (n:=(varsF l).length+1) aQ aQ na aA;clear hE hi bz hlt;simp (maxSteps:=10^6)+contextual(disch:=try exact dqd)only[ev1,simprocAttr,Cc,Ca,Cd,results26,dropL_one,dropL_more,lastO_one,lastO_more,e0,e1,e4,e5,e6,e31,e32,e33,d1,A7,An,hCh,j7,hVa,hvw,ft,G5,Bool.and_self];generalize bj:n'=n2;have bc:=L9 (D8 hs).2.2.2;have a1q:=Abg (D8 hs).2.2.2;have ul:∀ r ∈ l,i64 r.2.1:=fun r hr=>(bc r hr).1;have ck:∀ v,∀ r ∈ l,i64 (Gw r.1 v):=fun v r hr=>Yf (bc r hr).2 v;refine loop1 (P:=prog) (fun x st=>st.T.length=125/\(x.1<=l.length)/\(x.2.map (·.2)=Zz l ms x.1)/\getT st.T 0=An l/\getT st.T 1=A7 ms/\getT st.T 4=.frz [] .nilc/\getT st.T 5=.ref 0 0 0/\getT st.T 6=.int 0/\getT st.T 10=Bc (varsF l)/\getT st.T 11=.ref 2 (n2+1) 0/\getT st.T 12=.ref 3 (n2+1+1) 0/\getT st.T 13=.fn 52 [.ref 2 (n2+1) 0,.ref 3 (n2+1+1) 0]/\getT st.T 63=An l/\getT st.T 64=.int l.length/\getT st.T 65=.int (x.1:Nat)/\st.S=[⟨0,[.bool false,.frz [] .nilc]⟩,⟨n2,ownS x.2⟩,⟨n2+1,[.sref 1 n2 0 ((varsF l).length+1) 2]⟩,⟨n2+1+1,[.bool true]⟩]) (fun x=>l.length - x.1) (fun x=>N3 l ms) (0,Aof l) ?_ ?_;case refine_2=>exact ⟨rfl,Cl _,Ao1 l ms,rfl,rfl,rfl,rfl,rfl,rfl,rfl,rfl,rfl,rfl,rfl,rfl,rfl⟩
 rintro ⟨i,outs⟩ ⟨T,S',tk',n'⟩ ⟨hl,hi,hv,e0,e1,e4,e5,e6,e10,e11,e12,e13,e63,e64,e65,eS⟩ IH;simp only at hi hv e0 e1 e4 e5 e6 e10 e11 e12 e13 e63 e64 e65 eS;subst eS;obtain ⟨g,hg,hT⟩:=Ao hl;rw [hg] at e0 e1 e4 e5 e6 e10 e11 e12 e13 e63 e64 e65;subst hT;clear hg hl;have OUT:=IH;clear IH;have bz:=Ar (i:=i) aA;have m8:outs.length=(varsF l).length+1:=by
  have:=congrArg List.length hv;simpa [Zz] using this
 by_cases hlt:i<l.length
 ·have d2:decide ((i:Int)<(l.length:Int))=true:=aH
  obtain ⟨r,hr⟩:=Ab hlt;obtain ⟨m,hx⟩:=Ab (show i<ms.length by omega);have b8:=Jz hr;have hx':=Qo hx;have dn:=hm m (Ei hx);have dc:=a1q r (Ei hr);have qd:=(bc r (Ei hr)).2;have jp:=dp r (Ei hr);simp only [rowC,Ag] at b8;simp only [bigC] at hx';simp (maxSteps:=10^6)+contextual(disch:=try exact dqd)only[ev1,simprocAttr,Cc,Ca,Cd,results26,dropL_one,dropL_more,lastO_one,lastO_more,e0,e1,e4,e5,e6,e10,e11,e12,e13,e63,e64,e65,d2,An,b8];refine loop1 (P:=prog) (fun x st=>st.T.length=125/\(x.1<=r.1.length)/\(x.2.map (·.2)=(varsF l).map (valP l ms m r i x.1)++[constD l ms i])/\getT st.T 0=An l/\getT st.T 1=A7 ms/\getT st.T 4=.frz [] .nilc/\getT st.T 5=.ref 0 0 0/\getT st.T 6=.int 0/\getT st.T 10=Bc (varsF l)/\getT st.T 11=.ref 2 (n2+1) 0/\getT st.T 12=.ref 3 (n2+1+1) 0/\getT st.T 13=.fn 52 [.ref 2 (n2+1) 0,.ref 3 (n2+1+1) 0]/\getT st.T 14=.int (i:Nat)/\getT st.T 15=.ref 4 n' 0/\getT st.T 63=An l/\getT st.T 64=.int l.length/\getT st.T 65=.int (i:Nat)/\getT st.T 72=Ag r.1/\getT st.T 73=.int r.1.length/\getT st.T 74=.int (x.1:Nat)/\st.S=[⟨0,[.bool false,.frz [] .nilc]⟩,⟨n2,ownS x.2⟩,⟨n2+1,[.sref 1 n2 0 ((varsF l).length+1) 2]⟩,⟨n2+1+1,[.bool true]⟩,⟨n',[.frz (r.1.map coefC) .unk,.int r.2.1,.bool r.2.2]⟩]) (fun x=>r.1.length - x.1) (fun x=>N3 l ms) (0,outs) ?_ ?_;case refine_2=>exact ⟨rfl,Cl _,by rw [hv,Zz]; congr 1; exact I8 fun v _=>(Ao0 l ms m r i v).symm,rfl,rfl,rfl,rfl,rfl,rfl,rfl,rfl,rfl,rfl,rfl,rfl,rfl,rfl,rfl,rfl,rfl,rfl⟩
  rintro ⟨j,o2⟩ ⟨T,S',tk',n'⟩ ⟨hl,hj,un,e0,e1,e4,e5,e6,e10,e11,e12,e13,e14,e15,e63,e64,e65,e72,e73,e74,eS⟩ IH;simp only at hj un e0 e1 e4 e5 e6 e10 e11 e12 e13 e14 e15 e63 e64 e65 e72 e73 e74 eS;subst eS;obtain ⟨g,hg,hT⟩:=Ao hl;rw [hg] at e0 e1 e4 e5 e6 e10 e11 e12 e13 e14 e15 e63 e64 e65 e72 e73 e74;subst hT;clear hg hl;have hjw:=Ar (i:=j) aA;have a2e:o2.length=(varsF l).length+1:=by
   have:=congrArg List.length un;exact Ya1f
  by_cases cu:j<r.1.length
  ·have d3:decide ((j:Int)<(r.1.length:Int))=true:=cQ
   obtain ⟨c,hc⟩:=Ab cu;have bp:=Agu hc;obtain ⟨q,hq⟩:∃ q,nth (varsF l) q=some c.1:=by
    obtain ⟨q,hq⟩:=List.mem_iff_getElem?.1 (Avv (Ei hr) (Ei hc));exact ⟨q,by rw [Ae]; exact hq⟩
   have hqn:=A8 hq;have hB S tk k:=Z0 S tk k (varsF l) c.1 q (Ji _).1 hq aA;obtain ⟨e,he⟩:=Ab (show q<o2.length by omega);have ba:e.2=valP l ms m r i j c.1:=by
    have h1:nth (o2.map (·.2)) q=some e.2:=by rw [Bj,he]; rfl
    rw [un,Ae,Cu (by simpa using hqn),F1,<- Ae,hq] at h1;exact (Option.some.inj h1).symm
   have hz:=Aoz (l:=l) (ms:=ms) ck hm dn (show i<=9000 by omega) dc qd j c.1;have ev:=Aoz (l:=l) (ms:=ms) ck hm dn (show i<=9000 by omega) dc qd (j+1) c.1;rw [Ac8 hc,<- ba] at ev;rw [<- ba] at hz;have hA tk k c0 a0 a4 a5 c4:=Awo tk k c0 a0 n2 (n2+1) (n2+1+1) a4 a5 c4 [.prim (.string c.1),.prim (.int .i64 c.2)] o2 q e.1 e.2 c.2 m he hz dn (qd c (Ei hc)) ev;rw [a2e] at hA;simp only [coefC] at bp;simp only [Bc] at hB;simp only [bigC] at hA;simp (maxSteps:=10^6)+contextual(disch:=try exact dqd)only[ev1,simprocAttr,Cc,Ca,Cd,results26,dropL_one,dropL_more,lastO_one,lastO_more,e0,e1,e4,e5,e6,e10,e11,e12,e13,e14,e15,e63,e64,e65,e72,e73,e74,d3,An,A7,Bc,Ag,bp,hx',hB,hA,hjw,G5,Bool.and_self];have hvn:(o2.set q (false,e.2+vB m*c.2)).map (·.2)=(varsF l).map (valP l ms m r i (j+1))++[constD l ms i]:=by
    rw [List.map_set,un,List.set_append_left _ _ (by simpa using hqn)];congr 1;have h1:=map_set (g:=valP l ms m r i j) (g':=valP l ms m r i (j+1)) (fun v hvv=>Ajg hc v hvv) (Ji (D7 l)).1 hq;rw [Ac8 hc,<- ba] at h1;exact h1
   exact IH (j+1,o2.set q (false,e.2+vB m*c.2)) _ aF ⟨rfl,aE,hvn,aG,aG,aG,aG,aG,aG,aG,aG,aG,aG,aG,aG,aG,aG,aG,aG,aG,aG⟩
  ·have d3:decide ((j:Int)<(r.1.length:Int))=false:=cQ
   have hje:j=r.1.length:=aA
   subst hje;have a2f:o2.map (·.2)=(varsF l).map (fun v=>Adu l ms v (i+1))++[constD l ms i]:=by
    rw [un]; congr 1; exact I8 fun v _=>Ar6 hr hx dc v
   obtain ⟨e,he⟩:=Ab (show (varsF l).length<o2.length by omega);have ba:e.2=constD l ms i:=by
    have h1:nth (o2.map (·.2)) (varsF l).length=some e.2:=by rw [Bj,he]; rfl
    rw [a2f,Ae,C3 (by simp)] at h1;simp at h1;exact h1.symm
   have gt:constD l ms (i+1)=e.2+vB m*r.2.1:=by rw [ba]; exact Ym (f:=fun r=>r.2.1) hr hx
   have hz:okZ e.2=true:=by rw [ba]; exact Anh aA (W1 ul hm i)
   have ev:okZ (e.2+vB m*r.2.1)=true:=by rw [<- gt]; exact Anh aA (W1 ul hm (i+1))
   have hA tk k c0 a0 a4 c4:=Apv tk k c0 a0 n2 (n2+1) (n2+1+1) a4 0 c4 [] o2 (varsF l).length e.1 e.2 r.2.1 m he hz dn (ul r (Ei hr)) ev;rw [a2e] at hA;simp only [bigC] at hA;simp (maxSteps:=10^6)+contextual(disch:=try exact dqd)only[ev1,simprocAttr,Cc,Ca,Cd,results26,dropL_one,dropL_more,lastO_one,lastO_more,e0,e1,e4,e5,e6,e10,e11,e12,e13,e14,e15,e63,e64,e65,e72,e73,e74,d3,An,A7,Bc,Ag,hx',hA,bz,G5,Bool.and_self];have hvn:(o2.set (varsF l).length (false,e.2+vB m*r.2.1)).map (·.2)=Zz l ms (i+1):=by
    rw [List.map_set,a2f,fX _ _ (by simp),Zz,gt];simp
   exact OUT (i+1,o2.set (varsF l).length (false,e.2+vB m*r.2.1)) _ aF ⟨rfl,aE,hvn,aG,aG,aG,aG,aG,aG,aG,aG,aG,aG,aG,aG,aG⟩
 ·have d2:decide ((i:Int)<(l.length:Int))=false:=aH
  have fm:i=l.length:=aA
  subst fm;obtain ⟨e,he⟩:=Ab (show (varsF l).length<outs.length by omega);have ba:e.2=constD l ms l.length:=by
   have h1:nth (outs.map (·.2)) (varsF l).length=some e.2:=by rw [Bj,he]; rfl
   rw [hv,Zz,Ae,C3 (by simp)] at h1;simp at h1;exact h1.symm
  have qx:=R6 he;have dy:=Agx (n:=(varsF l).length) (l:=outs) aA;have jd:=Axx (outs.take (varsF l).length);have u9:(outs.take (varsF l).length).map (fun e=>zB e.2)=(varsF l).map fun v=>zB (sumF l ms v):=by
   have h1:(outs.take (varsF l).length).map (·.2)=(varsF l).map fun v=>Adu l ms v l.length:=by
    rw [gS,hv,Zz,Iy (by simp),Dc (by simp)]
   have h2:=congrArg (List.map zB) h1;rw [Ol,Ol] at h2;exact h2
  rw [u9] at jd;simp only [ownC,ba] at qx;have hln:(varsF l).length<(varsF l).length+1:=aA
  have hle:(varsF l).length<=(varsF l).length+1:=aA
  simp (maxSteps:=10^6)+contextual(disch:=try exact dqd)only[ev1,simprocAttr,Cc,Ca,Cd,results26,dropL_one,dropL_more,lastO_one,lastO_more,e0,e1,e4,e5,e6,e10,e11,e12,e13,e63,e64,e65,d2,An,A7,Bc,qx,dy,hln,hle,Hy,bound,intN_cast,Cf,Cl,Oj,jT,Io,Fo,Option.isSome_some,Option.isSome_none];rw [jd];have:Lb l ms=0:=by rw [jq,hs]
  simp only [N3,this];rfl
end
end
section
open Go Go.Proofs.Tryz
theorem Aw3 (z:Int):decide (cmpZ z 0 > 0)=decide (0<z):=by
 unfold cmpZ;by_cases h1:z<0
 ·rw [if_pos h1]; have:¬ 0<z:=aA
  simp [this]
 ·rw [if_neg h1];by_cases h2:0<z
  ·rw [if_pos h2]; simp [h2]
  ·rw [if_neg h2]; simp [h2]
section
variable (S:List Ent) (tk:List Nat) (k:Nat)
theorem Abe (l:List RowT) (ms:List BigT) (dp:∀ r ∈ l,r.1.length<=1048576) (hl1:l.length<=1000000) (hm:∀ m ∈ ms,m.2.length<=100):cL prog 47 [An l,A7 ms] S tk k=some (.bool (N0 l ms),S,tk,k):=by
 have hC S tk k:=Mx S tk k l ms dp hl1 hm;refine opP func47 ntmps47 ?_;by_cases hE:Lb l ms=0
 ·simp only [N3,hE,if_true] at hC;have hs:sysE l=0:=by
   unfold Lb at hE;split at hE
   ·cases hE
   ·split at hE
    ·cases hE
    ·split at hE
     ·cases hE
     ·exact hE
  have vu:(varsF l).length<=24:=(D8 hs).2.2.1;have hlen:=(D8 hs).2.1;have bc:=L9 (D8 hs).2.2.2;have ok1:∀ v,okZ (sumF l ms v)=true:=fun v=>Anh aA (W1 (fun r hr=>Yf (bc r hr).2 v) hm l.length);have ok2:okZ (N4 l ms)=true:=Anh aA (W1 (fun r hr=>(bc r hr).1) hm l.length);have hB:N0 l ms=(Xf l ms (varsF l) && decide (0<N4 l ms)):=by simp [N0,hE,Bool.and_comm]
  have hA S tk k:=Apx S tk k ((varsF l).map fun v=>zB (sumF l ms v)) aC (fun m h=>by
   obtain ⟨v,-,rfl⟩:=Fg.1 h;have:=K2 (ok1 v);show (dig (sumF l ms v).natAbs).length<=1000000;omega)
  have hal:((varsF l).map fun v=>zB (sumF l ms v)).all Rk=Xf l ms (varsF l):=by
   rw [List.all_map];unfold Xf;congr 1;funext v;show decide (vB (zB (sumF l ms v))=0)=_;rw [Ar5 (ok1 v)]
  rw [hal] at hA;have hD S tk k:=told (E:=E1) (Ae4 S tk k (decide (N4 l ms<0)) (dig (N4 l ms).natAbs) (by have:=K2 ok2; omega));rw [V_zA ok2] at hD;have hg:=Aw3 (N4 l ms);rw [hB];simp only [An,A7,zA,bigA,digA] at hC hA hD;have dz:((0:Int) == 0)=true:=rfl;cases h1:Xf l ms (varsF l) with
  | true =>
   rw [h1] at hA;simp (maxSteps:=10^6)+contextual(disch:=try exact dqd)only[ev1,simprocAttr,Cc,Ca,Cd,results47,An,A7,hC,hA,hD,hg,dz,G2]
  | false =>
   rw [h1] at hA;simp (maxSteps:=10^6)+contextual(disch:=try exact dqd)only[ev1,simprocAttr,Cc,Ca,Cd,results47,An,A7,hC,hA,hD,hg,dz,F4]
 ·have d0:(Lb l ms == 0)=false:=by simpa using hE
  have hB:N0 l ms=false:=by simp [N0,hE]
  simp only [N3,if_neg hE] at hC;simp only [An,A7,zA,bigA,digA] at hC;simp (maxSteps:=10^6)+contextual(disch:=try exact dqd)only[ev1,simprocAttr,Cc,Ca,Cd,results47,An,A7,hC,d0];rw [hB]
end
end
section
open Go Go.Proofs.Tryz
set_option maxHeartbeats 1000000
set_option maxRecDepth 100000
section
variable (S:List Ent) (tk:List Nat) (k:Nat)
theorem Ad4 (l:List RowT) (ms:List BigT) (dp:∀ r ∈ l,r.1.length<=1048576) (hl1:l.length<=1000000) (q9:ms.length<=1000) (hm:∀ m ∈ ms,m.2.length<=100):cL prog 25 [An l,A7 ms] S tk k=some (A7 (if N0 l ms=true then Xv ms else []),S,tk,k):=by
 have hC S tk k:=Abe S tk k l ms dp hl1 hm;simp only [An,A7] at hC;refine opP func25 ntmps25 ?_;cases hc:N0 l ms with
 | false =>
  rw [hc] at hC;simp (maxSteps:=10^6)+contextual(disch:=try exact dqd)only[ev1,simprocAttr,Cc,Ca,Cd,results25,An,A7,hC]
 | true =>
 rw [hc] at hC;rw [if_pos rfl];simp (maxSteps:=10^6)+contextual(disch:=try exact dqd)only[ev1,simprocAttr,Cc,Ca,Cd,results25,An,A7,hC];refine loop1 (P:=prog) (fun x st=>st.T.length=48/\(x<=ms.length)/\getT st.T 1=A7 ms/\getT st.T 5=.ref 0 0 0/\getT st.T 19=A7 ms/\getT st.T 20=.int ms.length/\getT st.T 21=.int (x:Nat)/\st.S=[⟨0,gcdC ms x⟩]) (fun x=>ms.length - x) (fun x=>A7 (Xv ms)) (0) ?_ ?_;case refine_2=>exact ⟨rfl,Cl _,rfl,rfl,rfl,rfl,rfl,rfl⟩
 rintro i ⟨T,S',tk',n'⟩ ⟨hl,hi,e1,e5,e19,e20,e21,eS⟩ IH;subst eS;obtain ⟨g,hg,hT⟩:=Ao hl;rw [hg] at e1 e5 e19 e20 e21;subst hT;clear hg hl;have bz:=Ar (i:=i) aA;rw [Aul];by_cases hlt:i<ms.length
 ·have d1:decide ((i:Int)<(ms.length:Int))=true:=aH
  obtain ⟨m,hx⟩:=Ab hlt;have hx':=Qo hx;have hz:=K2 (Agc hm i);have hG S tk k:=(gcd_w prog (f:=48) (p:=decide (gcdN ms i<0)) (l:=dig (gcdN ms i).natAbs) (c:=i == 0) rfl).trans (told (E:=E1) (Akp S tk k (decide (gcdN ms i<0)) m.1 (dig (gcdN ms i).natAbs) m.2 aA (by have:=hm m (Ei hx); omega)));rw [V_zA (Agc hm i),show V m.1 m.2=vB m from rfl,<- Agd hx] at hG;simp only [bigC] at hx';simp only [bigA,digA,zA] at hG;simp (maxSteps:=10^6)+contextual(disch:=try exact dqd)only[ev1,simprocAttr,Cc,Ca,Cd,results25,e1,e5,e19,e20,e21,d1,A7,hx',hG,bz,ownC];exact IH (i+1) _ aF ⟨rfl,aE,aU,aU,aU,aU,aU,aU⟩
 have d1:decide ((i:Int)<(ms.length:Int))=false:=aH
 have fm:i=ms.length:=aA
 subst fm;simp (maxSteps:=10^6)+contextual(disch:=try exact dqd)only[ev1,simprocAttr,Cc,Ca,Cd,results25,e1,e5,e19,e20,e21,d1,A7];generalize hb9:(ms.length == 0)=b9;refine loop1 (P:=prog) (fun x st=>st.T.length=48/\(x.1<=ms.length)/\(x.2.1=(ms.take x.1).map fun m=>zB (quoZ (vB m) (gcdN ms ms.length)))/\(Be st.tk x.2.2 2=true)/\getT st.T 1=A7 ms/\getT st.T 5=.ref 0 0 0/\getT st.T 8=.frz (x.2.1.map bigC) x.2.2/\getT st.T 29=A7 ms/\getT st.T 30=.int ms.length/\getT st.T 31=.int (x.1:Nat)/\st.S=[⟨0,ownC (b9,gcdN ms ms.length)⟩]) (fun x=>ms.length - x.1) (fun x=>A7 (Xv ms)) (0,[],.nilc) ?_ ?_;case refine_2=>exact ⟨rfl,Cl _,rfl,rfl,rfl,rfl,rfl,rfl,rfl,rfl,rfl⟩
 rintro ⟨i,out,c⟩ ⟨T,S',tk',n'⟩ ⟨hl,hi,he,ae,e1,e5,e8,e29,e30,e31,eS⟩ IH;simp only at hi he ae e1 e5 e8 e29 e30 e31 eS;subst eS;obtain ⟨g,hg,hT⟩:=Ao hl;rw [hg] at e1 e5 e8 e29 e30 e31;subst hT;clear hg hl;have bz:=Ar (i:=i) aA;by_cases hlt:i<ms.length
 ·have d1:decide ((i:Int)<(ms.length:Int))=true:=aH
  obtain ⟨m,hx⟩:=Ab hlt;have hx':=Qo hx;have hz:=K2 (Agc hm ms.length);have hD S tk k:=(div_w prog (f:=49) (p:=decide (gcdN ms ms.length<0)) (l:=dig (gcdN ms ms.length).natAbs) (c:=b9) rfl).trans (told (E:=E1) (Adq S tk k m.1 (decide (gcdN ms ms.length<0)) m.2 (dig (gcdN ms ms.length).natAbs) (by have:=hm m (Ei hx); omega) aA));rw [V_zA (Agc hm ms.length),show V m.1 m.2=vB m from rfl,divA,<- quoZ,<- remZ] at hD;have m8:out.length<=ms.length:=by rw [he]; simp; omega
  have hr:=Qv out;have bu:=Bw ae;have cd:(out.map bigC).length+1<=1048576:=aC
  have u9:=Db hx;simp only [bigC] at hx';simp only [bigA,digA,zA] at hD;simp (maxSteps:=10^6)+contextual(disch:=try exact dqd)only[ev1,simprocAttr,Cc,Ca,Cd,results25,e1,e5,e8,e29,e30,e31,d1,A7,hx',hD,bz,ownC,hr];exact IH (i+1,out++[zB (quoZ (vB m) (gcdN ms ms.length))],A4 tk' c 2) _ aF ⟨rfl,aE,by rw [u9,F6,he]; rfl,bu,aU,aU,aU,aU,aU,aU,aU⟩
 ·have d1:decide ((i:Int)<(ms.length:Int))=false:=aH
  have fm:i=ms.length:=aA
  subst fm;rw [F2] at he;simp (maxSteps:=10^6)+contextual(disch:=try exact dqd)only[ev1,simprocAttr,Cc,Ca,Cd,results25,e1,e5,e8,e29,e30,e31,d1,A7];rw [he]; rfl
end
end
section
open Go Go.Proofs.Tryz
set_option maxRecDepth 100000
theorem Vt (l:List RowT):Dz 3 (l.map rowC)=true:=D2 (f:=rowC) (sz:=3) (fun _=>rfl) l
def Zl (l:List RowT):List AV:=[An l]
section
variable (S:List Ent) (tk:List Nat) (k:Nat)
theorem Kn (ls:List (List RowT)) (h1:ls.length<=1000) (h2:ls.flatten.length<=100000):cL prog 22 [.frz (ls.map Zl) .unk] S tk k=some (An ls.flatten,S,tk,k):=by
 refine opP func22 ntmps22 (hp3:=rfl) ?_;simp (maxSteps:=10^6)+contextual(disch:=try exact dqd)only[ev1,simprocAttr,Cc,Ca,Cd,results22];refine loop1 (P:=prog) (fun x st=>st.T.length=17/\(x.1<=ls.length)/\(Be st.tk x.2 3=true)/\getT st.T 3=.frz ((ls.take x.1).flatten.map rowC) x.2/\getT st.T 6=.frz (ls.map Zl) .unk/\getT st.T 7=.int (ls.length:Nat)/\getT st.T 8=.int (x.1:Nat)/\st.S=[]) (fun x=>ls.length - x.1) (fun x=>An ls.flatten) (0,.nilc) ?_ ?_;case refine_2=>exact ⟨rfl,Cl _,rfl,rfl,rfl,rfl,rfl,rfl⟩
 rintro ⟨i,c⟩ ⟨T,S',tk',n'⟩ ⟨hl,hi,ae,e3,e6,e7,e8,eS⟩ IH;simp only at hi ae e3 e6 e7 e8 eS;subst eS;obtain ⟨g,hg,hT⟩:=Ao hl;rw [hg] at e3 e6 e7 e8;subst hT;clear hg hl;have bz:=Ar (i:=i) aA;by_cases la:i<ls.length
 ·have d1:decide ((i:Int)<(ls.length:Int))=true:=bR
  obtain ⟨x,hx⟩:=Ab la;have hx':nth (ls.map Zl) i=some (Zl x):=by rw [Bj,hx]; rfl
  have u9:=Db hx;have ew:(ls.take (i+1)).flatten=(ls.take i).flatten++x:=by rw [u9]; simp
  have hle:(ls.take (i+1)).flatten.length<=ls.flatten.length:=by
   have e:ls.flatten=(ls.take (i+1)).flatten++(ls.drop (i+1)).flatten:=by rw [<- jP,I9]
   rw [e,Cs]; omega
  rw [ew,Cs] at hle;have bw:=Vt (ls.take i).flatten;have ab:=Vt x;have bu:=Bw ae;have hn:((ls.take i).flatten.map rowC).length+(x.map rowC).length<=1048576:=by simp only [F8]; omega
  simp only [Zl,An] at hx';simp (maxSteps:=10^6)+contextual(disch:=try exact dqd)only[ev1,simprocAttr,Cc,Ca,Cd,results22,e3,e6,e7,e8,d1,hx',bz,bw,ab];exact IH (i+1,A4 tk' c 3) _ aF ⟨rfl,aE,bu,dP,dP,dP,dP,dP⟩
 ·have d1:decide ((i:Int)<(ls.length:Int))=false:=bR
  have fm:i=ls.length:=aA
  subst fm;rw [F2] at e3;simp (maxSteps:=10^6)+contextual(disch:=try exact dqd)only[ev1,simprocAttr,Cc,Ca,Cd,results22,e3,e6,e7,e8,d1,An]
theorem Agl {A B:List (List AV)} : cL prog 22 [.frz [[.frz A .unk],[.frz B .unk]] .tight] S tk k=cL prog 22 [.frz [[.frz A .unk],[.frz B .unk]] .unk] S tk k:=Wa rfl rfl rfl
theorem add_n {A:List (List AV)} {n:Int} : cL prog 72 [.agg [.frz A .unk,.int n],.agg [.frz [] .nilc,.int 1]] S tk k=cL prog 72 [.agg [.frz A .unk,.int n],.agg [.frz [] .unk,.int 1]] S tk k:=Wa rfl rfl rfl
theorem Are {l:List RowT} {r:RowT} {q:Int} (h1:l.length<=12) (h2:∀ r ∈ l,r.1.length<=1048576) (h3:r.1.length<=1048576):(l++[oneR r q]).length<=13/\∀ x ∈ l++[oneR r q],x.1.length<=1048576:=by
 refine ⟨aC,fun x hx=>?_⟩;rcases Cw.1 hx with hx|hx
 ·exact h2 x hx
 ·rw [F0.1 hx]; simpa [oneR] using h3
theorem Jp (l:List RowT) (r:RowT) (q:Int) (hq:q=1\/q=-1) (h0:Az r.1 r.2.1=0) (hl:l.length<=12) (dp:∀ r ∈ l,r.1.length<=1048576):cL prog 34 [An l,linA r.1 r.2.1,.int q] S tk k=some (.bool (Kw l r q),S,tk,k):=by
 have jp:=J4 h0;have hS S tk k:=Ab3 S tk k r.1 r.2.1 q aA;have hA S tk k:=(add_n S tk k).trans (Ail S tk k (r.1.map (mulC q)) [] (r.2.1*q) 1 aC (by simp));rw [Arv hq h0] at hS;rw [Awp hq h0] at hA;obtain ⟨o1,o2⟩:=Are (q:=q) hl dp (show r.1.length<=1048576 by omega);have hJ S tk k:=(Agl S tk k).trans (Kn S tk k [l,[oneR r q]] (by simp) aC);have hF S tk k:=Jt S tk k (l++[oneR r q]) o1 o2;have hc:Kw l r q=(inB (r.2.1*q+1) && ((sysE (l++[oneR r q]) == 0) && !feasB (l++[oneR r q]))):=rfl;rw [hc];simp only [Ff,Sg,Fp,An] at hJ;simp only [linA,Ag,Ct] at hS hA;simp only [An] at hF;cases hb:inB (r.2.1*q+1) with
 | true =>
  rw [hb,if_pos rfl] at hA;simp only [oneR,Cn,Ct,F6,Zl,An,rowC,Ag] at hJ hF ⊢;refine opP func34 ntmps34 (hp3:=rfl) ?_;cases jm:feasB (l++[(r.1.map (mulC q),r.2.1*q+1,false)]) <;> rw [jm] at hF <;>
  simp (maxSteps:=10^6)+contextual(disch:=try exact dqd)only[ev1,simprocAttr,Cc,Ca,Cd,results34,An,linA,Ag,hS,hA,hJ,hF,G2,jA,kD,F5,Fw]
 | false =>
  rw [hb,if_neg (by simp)] at hA;refine opP func34 ntmps34 (hp3:=rfl) ?_;simp (maxSteps:=10^6)+contextual(disch:=try exact dqd)only[ev1,simprocAttr,Cc,Ca,Cd,results34,An,linA,Ag,hS,hA,F4]
end
end
section
open Go Go.Proofs.Tryz
set_option maxRecDepth 100000
section
variable (S:List Ent) (tk:List Nat) (k:Nat)
theorem Wd (l:List RowT) (r:RowT) (hl:l.length<=12) (dp:∀ r ∈ l,r.1.length<=1048576) (hr:r.1.length<=1048576):cL prog 13 [An l,.agg (rowC r)] S tk k=some (.bool (Hz l r),S,tk,k):=by
 have hC S tk k:=Ed S tk k r.1 r.2.1 hr;have hc:Hz l r=((Az r.1 r.2.1 == 0) && (Kw l r (-1) && (!r.2.2 || Kw l r 1))):=rfl;rw [hc];simp only [linA,Ag] at hC;by_cases h0:Az r.1 r.2.1=0
 ·have h1 S tk k:=Jp S tk k l r 1 (.inl rfl) h0 hl dp;have h2 S tk k:=Jp S tk k l r (-1) (.inr rfl) h0 hl dp;have c1:(Az r.1 r.2.1 != 0)=false:=by simp [h0]
  have c2:(Az r.1 r.2.1 == 0)=true:=by simp [h0]
  simp only [linA,Ag,An] at h1 h2;rw [c2,G2];refine opP func13 ntmps13 (hp3:=rfl) ?_;cases ha:Kw l r (-1) <;> rw [ha] at h2 <;> cases hb:Kw l r 1 <;> rw [hb] at h1 <;> cases he:r.2.2 <;>
  simp (maxSteps:=10^6)+contextual(disch:=try exact dqd)only[ev1,simprocAttr,Cc,Ca,Cd,results13,An,rowC,Ag,hC,c1,h1,h2,he,G2,F4,F5,Fw,S8,I5]
 ·have c1:(Az r.1 r.2.1 != 0)=true:=aX
  have c2:(Az r.1 r.2.1 == 0)=false:=aX
  rw [c2,F4];refine opP func13 ntmps13 (hp3:=rfl) ?_;simp (maxSteps:=10^6)+contextual(disch:=try exact dqd)only[ev1,simprocAttr,Cc,Ca,Cd,results13,An,rowC,Ag,hC,c1]
end
end
section
open Go
end
section
open Go Go.Proofs.Tryz
set_option maxRecDepth 100000
section
variable (S:List Ent) (tk:List Nat) (k:Nat)
theorem Akq (p:Bool) (l:List Int) (hl:l.length<=1000000):cL prog 28 [bigA p l] S tk k=some (.tup [.int (intZ (V p l)),.bool (inZ (V p l))],S,tk,k):=by
 have hD S tk k:=told (E:=E1) (Ea S tk k p l .unk hl);have ha:=M6 p l;have e0:=V_sg p l;obtain ⟨N,hN⟩:∃ N,N=(V p l).natAbs:=⟨_,rfl⟩;rw [<- hN] at hD ha e0;simp only [digA] at hD;refine opP func28 ntmps28 ?_;by_cases h4:4<(dig N).length
 ·have d1:decide (((dig N).length:Int) > 4)=true:=aC
  have hbig:inZ (V p l)=false:=by
   have h5:=A9 (n:=N) (k:=4);have h6:¬ N<10000 ^ 4:=fun h=>by have:=h5.2 h; omega
   simp [inZ]; omega
  have hz:intZ (V p l)=0:=by simp [intZ,hbig]
  rw [hz,hbig];simp (maxSteps:=10^6)+contextual(disch:=try exact dqd)only[ev1,simprocAttr,Cc,Ca,Cd,results28,bigA,digA,hD,d1]
 have oi:(dig N).length<=4:=aA
 have d1:decide (((dig N).length:Int) > 4)=false:=aC
 have d3:=Hu (n:=(dig N).length) aA;simp (maxSteps:=10^6)+contextual(disch:=try exact dqd)only[ev1,simprocAttr,Cc,Ca,Cd,results28,bigA,digA,hD,d1,d3];refine loop1 (P:=prog) (fun x st=>st.T.length=39/\(x.1<=(dig N).length)/\(x.2=val ((dig N).drop x.1))/\getT st.T 1=.ref 0 0 0/\getT st.T 4=digA (dig N)/\getT st.T 5=.int x.2/\getT st.T 6=.int ((x.1:Int) - 1)/\st.S=[⟨0,[.bool p,digA l]⟩]) (fun x=>x.1) (fun x=>.tup [.int (intZ (V p l)),.bool (inZ (V p l))]) ((dig N).length,0) ?_ ?_;case refine_2=>exact ⟨rfl,Cf _,by rw [C9]; rfl,rfl,rfl,rfl,rfl,rfl⟩
 rintro ⟨m,n⟩ ⟨T,S',tk',n'⟩ ⟨hl,hm,he,e1,e4,e5,e6,eS⟩ IH;simp only at hm he e1 e4 e5 e6 eS;subst eS;obtain ⟨g,hg,hT⟩:=Ao hl;rw [hg] at e1 e4 e5 e6;subst hT;clear hg hl;have hb:=Qb oi m;by_cases h0:m=0
 ·have d2:decide ((m:Int) - 1 >= 0)=false:=aC
  subst h0;rw [Fi,B3] at he;subst he;have hb0:=Qb oi 0;rw [Fi,B3] at hb0;have q1:Ce.wrap (0 - (N:Int))=-(N:Int):=aP
  have hI n S tk k:=Axr S tk k n;have d4:=Gy N;by_cases gy:N=0
  ·have d5:decide (((dig N).length:Int) > 0)=false:=by rw [d4]; simp [gy]
   have hV:V p l=(N:Int):=aA
   rw [hV];cases p <;> cases bc:inZ (N:Int);all_goals
    have hz:intZ (N:Int)=if inZ (N:Int)=true then (N:Int) else 0:=rfl
    rw [bc] at hz
    simp (maxSteps:=10^6)+contextual(disch:=try exact dqd)only[ev1,simprocAttr,Cc,Ca,Cd,results28,bigA,digA,e1,e4,e5,e6,d2,d5,hI,bc]
    simp [hz]
  ·have d5:decide (((dig N).length:Int) > 0)=true:=by rw [d4]; simp [gy]
   cases p with
   | true =>
    have hV:V true l=-(N:Int):=by rw [e0]; rfl
    rw [hV];cases bc:inZ (-(N:Int));all_goals
     have hz:intZ (-(N:Int))=if inZ (-(N:Int))=true then -(N:Int) else 0:=rfl
     rw [bc] at hz
     simp (maxSteps:=10^6)+contextual(disch:=try exact dqd)only[ev1,simprocAttr,Cc,Ca,Cd,results28,bigA,digA,e1,e4,e5,e6,d2,d5,hI,bc,q1]
     simp [hz]
   | false =>
    have hV:V false l=(N:Int):=by rw [e0]; rfl
    rw [hV];cases bc:inZ (N:Int);all_goals
     have hz:intZ (N:Int)=if inZ (N:Int)=true then (N:Int) else 0:=rfl
     rw [bc] at hz
     simp (maxSteps:=10^6)+contextual(disch:=try exact dqd)only[ev1,simprocAttr,Cc,Ca,Cd,results28,bigA,digA,e1,e4,e5,e6,d2,d5,hI,bc,q1]
     simp [hz]
 ·have d2:decide ((m:Int) - 1 >= 0)=true:=aC
  have hi:(m:Int) - 1=((m - 1:Nat):Int):=aA
  obtain ⟨x,hx⟩:=Ab (show m - 1<(dig N).length by omega);have hx':=B9 hx;have hxk:=B5 (Bd N) hx;have ng:=Qb oi (m - 1);have hv:=Au hx;have c9:m - 1+1=m:=aA
  rw [c9] at hv;rw [hv,val,<- he] at ng;rw [<- he] at hb;have hp:=Hu (n:=m - 1) aA;have q1:Ce.wrap (n*10000)=n*10000:=Aa aD;have q2:Ce.wrap (n*10000+x)=n*10000+x:=Aa aD;rw [hi] at e6 d2;simp (maxSteps:=10^6)+contextual(disch:=try exact dqd)only[ev1,simprocAttr,Cc,Ca,Cd,results28,e1,e4,e5,e6,d2,digA,hx',hp,q1,q2];exact IH (m - 1,n*10000+x) _ aF ⟨rfl,aE,by rw [hv,val,<- he]; omega,aB,aB,aB,aB,aB⟩
end
end
section
open Go
inductive PT where
 | node (op:Int) (name:ByteArray) (n:Int) (kids:List PT)
def PT.op:PT->Int|.node o _ _ _=>o
def PT.name:PT->ByteArray|.node _ s _ _=>s
def PT.n:PT->Int|.node _ _ n _=>n
theorem Ayi {P:Program} {t:TypeId} {sz n:Nat} {es:List (List AV)} {c:Cap} (hs:(Ay P t).bind (szOf P)=some sz) (hr:Dz sz es=true) (h:n<=es.length):Hy P t (.frz es c) none (some (.prim (.int .i64 (n:Nat)))) none=some (.frz (es.take n) .unk):=by
 have e:bound es.length (some (.prim (.int .i64 (n:Nat)))) es.length=some n:=by
  unfold bound;dsimp only;rw [intN_cast];dsimp only;rw [if_pos h]
 have e2:bound n (none:Option AV) 0=some 0:=rfl;simp only [Hy,hs,hr,if_true,e,e2,Fi]
end
section
open Go Go.Proofs.Tryz
set_option maxHeartbeats 8000000
set_option maxRecDepth 100000
theorem Ant (l:List RowT) (hl:l.length<=13) (h0:sysE l=0):∃ ms:List BigT,(∀ S tk k,cL prog 24 [An l] S tk k=some (.tup [A7 ms,.bool (!feasB l)],S,tk,k))/\(feasB l=false->∃ zs:List Int,ms=zs.map zB/\Ti l zs/\∀ z ∈ zs,z.natAbs<=10000 ^ 45):=by
 obtain ⟨f1,f2,f3,f4⟩:=D8 h0;have hr:=Qt (vars:=varsF l) f4 H6;obtain ⟨a,h1,h2,h3⟩:=Ap2 hl hr (Cf _);obtain ⟨hf,hnu⟩:=Arp (fun r h=>(hr r h).1) h3;have hfB:=Af7 h0 hf;have dp:∀ r ∈ l,r.1.length<=1048576:=fun r h=>by have:=J4 (Ho f4 r h); omega
 cases hb:a.f with
 | true =>
  rw [hb] at hfB;have hn:=hnu hb;refine ⟨[],fun S tk k=>?_,fun h=>(by rw [hfB] at h; cases h)⟩;have:=M4 S tk k l dp (L9 f4) _ a h0 h1 h2 (by rw [hn]; simp) (by rw [hn]; intro q hq; cases hq);rw [hb,if_pos rfl] at this;rw [hfB]; exact this
 | false =>
  rw [hb] at hfB;obtain ⟨n1,n2,zs,e,hc,hB⟩:=Aml hl hr h3 hb;refine ⟨zs.map zB,fun S tk k=>?_,fun _=>⟨zs,rfl,Aty hc,fun z hz=>?_⟩⟩
  ·have:=M4 S tk k l dp (L9 f4) _ a h0 h1 h2 aA n2;rw [hb,if_neg (by simp),e] at this;rw [hfB]; exact this
  ·have:=hB 1000000000000 (fun r h=>(hr r h).2) (Cf _) z hz;have:=Akn hl;omega
def Yg (a:List RowT) (xs:List Int) (v:ByteArray):Int:=dotZ (fun r=>Gw r.1 v) a xs
def Adw (a:List RowT) (xs:List Int):Int:=dotZ (fun r=>r.2.1) a xs
theorem Aoq {cs:List (ByteArray × Int)} {n:Int} {eq:Bool} {m:Nat} (h:cs.length<=m) (hm:m<=24):(Gp cs n eq).1.length<=1048576:=by
 exact Ya1m
noncomputable def resG (a:List RowT) (vs:List ByteArray) (f:ByteArray->Int) (nn:Int):RowT × Int :=
 if vs.all (fun v=>inZ (f v))=true then
  if inZ nn=true then
   if Hz a (Gp (outF f vs) nn false)=true then (Gp (outF f vs) nn false,0) else (([],0,false),2)
  else (([],0,false),2)
 else (([],0,false),2)
noncomputable def resT (a:List RowT) (xs:List Int):RowT × Int:=resG a (varsF a) (Yg a xs) (Adw a xs)
noncomputable def resA2 (a:List RowT) (xs:List Int):AV:=.tup [.agg (rowC (resT a xs).1),.int (resT a xs).2]
theorem Adv {cs:List (ByteArray × Int)} {M:Nat} (h:∀ c ∈ cs,c.2.natAbs<=M) (s:ByteArray):(Gw cs s).natAbs<=M:=by
 induction cs with
 | nil=>simp [Gw]
 | cons c cs ih =>
  unfold Gw;split
  ·exact h c (Cq ..)
  ·exact ih fun x hx=>h x (Co _ hx)
theorem Ap9 {a:List RowT} {xs:List Int} (ha:a.length<=6) (h0:sysE a=0) (hx:∀ z ∈ xs,z.natAbs<=10000 ^ 45):(∀ v,okZ (Yg a xs v)=true)/\okZ (Adw a xs)=true:=by
 have hr:=Qt (vars:=varsF a) (D8 h0).2.2.2 H6;have key:∀ f:RowT->Int,(∀ r ∈ a,(f r).natAbs<=1000000000000)->okZ (dotZ f a xs)=true:=fun f hf=>by
  have h1:=Qa hf hx;have h2:a.length*(10000 ^ 45*1000000000000)<=6*(10000 ^ 45*1000000000000):=E5 _ ha;have h3:6*(10000 ^ 45*1000000000000)<10000 ^ 200:=aR
  exact Nn aA
 exact ⟨fun v=>key _ fun r h=>Adv (hr r h).2.cof v,key _ fun r h=>(hr r h).2.con⟩
section
variable (S:List Ent) (tk:List Nat) (k:Nat)
theorem Avs {A:List (List AV)} {c:Cap} {n:Int} : cL prog 29 [.agg [.frz A c,.int n,.bool false]] S tk k=cL prog 29 [.agg [.frz A .unk,.int n,.bool false]] S tk k:=Wa rfl rfl rfl
theorem Abp (a b:List RowT) (la:a.length<=6) (lb:b.length<=6) (hla:∀ r ∈ a,r.1.length<=1048576) (vs:List ByteArray) (vu:vs.length<=24) (f:ByteArray->Int) (nn:Int) (ms ms':List BigT)
  (q9:ms.length=a.length+b.length) (hml':ms'.length=a.length+b.length) (hI0:∀ v ∈ vs,∀ S tk k,cL prog 28 [zA (f v)] S tk k=some (.tup [.int (intZ (f v)),.bool (inZ (f v))],S,tk,k)) (hN:∀ S tk k,cL prog 28 [zA nn] S tk k=some (.tup [.int (intZ nn),.bool (inZ nn)],S,tk,k))
  (a3o:∀ S tk k,cL prog 29 [rowA (outF f vs) nn false] S tk k=some (.agg (rowC (Gp (outF f vs) nn false)),S,tk,k))
  (hF:∀ S tk k,cL prog 23 [An (a++b)] S tk k=some (.tup [.bool false,.int 0],S,tk,k))
  (hR:∀ S tk k,cL prog 24 [An (a++b)] S tk k=some (.tup [A7 ms,.bool true],S,tk,k))
  (hT:∀ S tk k,cL prog 25 [An (a++b),A7 ms] S tk k=some (A7 ms',S,tk,k))
  (hC:∀ S tk k,cL prog 26 [An a,A7 (ms'.take a.length)] S tk k=some (.tup [A7 (vs.map fun v=>zB (f v)),zA nn,.int 0],S,tk,k))
  (hV:∀ S tk k,cL prog 27 [An a] S tk k=some (Bc vs,S,tk,k)) :
  cL prog 9 [An a,An b] S tk k=some (.tup [.agg (rowC (resG a vs f nn).1),.int (resG a vs f nn).2],S,tk,k):=by
 have hJ S tk k:=(Agl S tk k).trans (Kn S tk k [a,b] (by simp) aC);have ii:(((ms'.length:Nat):Int) == ((ms.length:Nat):Int))=true:=aC
 have hsl:=Ayi (P:=prog) (t:=54) (n:=a.length) (es:=ms'.map bigC) (c:=.unk) aQ (Qv _) aC;rw [<- gS] at hsl;obtain ⟨RES,a1r⟩:∃ RES:AV,RES=.tup [.agg (rowC (resG a vs f nn).1),.int (resG a vs f nn).2]:=⟨_,rfl⟩;rw [<- a1r];have jg:=a1r.symm;conv at jg=>lhs; unfold resG
 generalize ms'.take a.length=xs at *;obtain ⟨bs,pm⟩:∃ bs,bs=vs.map fun v=>zB (f v):=⟨_,rfl⟩;rw [<- pm] at hC;have a2g:pure3 RES=true:=by
  rw [a1r]; rfl
 refine opP func9 ntmps9 (hp3:=a2g) ?_;simp only [Ff,Sg,Fp,An,Cn,Ct,Zl] at hJ;simp only [An] at hF hR hT hC hV;simp only [A7,Bc,zA,bigA,digA] at hR hT hC hV hN;simp (maxSteps:=10^6)+contextual(disch:=try exact dqd)only[ev1,simprocAttr,Cc,Ca,Cd,results9,An,hJ,hF,hR,hT,hC,hV,ii,hsl,bne_self_eq_false,F5,Fw];clear hJ hF hR hT hC hV hsl;refine loop1 (P:=prog) (fun x st=>st.T.length=119/\(x.1<=vs.length)/\(Be st.tk x.2 2=true)/\(∀ v ∈ vs.take x.1,inZ (f v)=true)/\getT st.T 0=An a/\getT st.T 4=.ref 0 0 0/\getT st.T 12=A7 bs/\getT st.T 13=.ref 1 1 0/\getT st.T 14=.ref 2 2 0/\getT st.T 71=Bc vs/\getT st.T 72=.int (vs.length:Nat)/\getT st.T 73=.int (x.1:Nat)/\st.S=[⟨0,[.frz [] .nilc,.int 0,.bool false]⟩,⟨1,bigC (zB nn)⟩,⟨2,[.frz ((outF f (vs.take x.1)).map coefC) x.2,.int 0]⟩]) (fun x=>vs.length - x.1) (fun x=>RES) (0,.nilc) ?_ ?_;case refine_2=>exact ⟨rfl,Cl _,rfl,by simp,rfl,rfl,rfl,rfl,rfl,rfl,rfl,rfl,rfl⟩
 rintro ⟨i,c⟩ ⟨T,S',tk',n'⟩ ⟨hl,hi,ae,b6,e0,e4,e12,e13,e14,e71,e72,e73,eS⟩ IH;simp only at hi ae b6 e0 e4 e12 e13 e14 e71 e72 e73 eS;subst eS;obtain ⟨g,hg,hT⟩:=Ao hl;rw [hg] at e0 e4 e12 e13 e14 e71 e72 e73;subst hT;clear hg hl;have bz:=Ar (i:=i) aA;by_cases lt:i<vs.length
 ·have d1:decide ((i:Int)<(vs.length:Int))=true:=by simpa using lt
  obtain ⟨v,hx⟩:=Ab lt;have hx':=Aei hx;have ng:nth (bs.map bigC) i=some (bigC (zB (f v))):=by rw [pm,Bj,Bj,hx]; rfl
  have hI:=hI0 v (Ak hx);simp only [bigC,zB] at ng;simp only [zA,bigA,digA] at hI;cases hz:inZ (f v) with
  | false =>
   have aq:(vs.all fun v=>inZ (f v))=false:=List.all_eq_false.2 ⟨v,Ak hx,by rw [hz]; simp⟩;rw [aq,if_neg (by simp)] at jg;rw [hz] at hI;subst jg;simp (maxSteps:=10^6)+contextual(disch:=try exact dqd)only[ev1,simprocAttr,Cc,Ca,Cd,results9,e0,e4,e12,e13,e14,e71,e72,e73,d1,An,Bc,A7,hx',ng,hI,Fw,rowC,Ag,Ct]
  | true =>
   rw [hz,show intZ (f v)=f v by unfold intZ; rw [if_pos hz]] at hI;have a0j:∀ u ∈ vs.take (i+1),inZ (f u)=true:=fun u hu=>by
    rw [Db hx,Cw] at hu;rcases hu with hu|hu
    ·exact b6 u hu
    ·rw [F0.1 hu]; exact hz
   have hr:=D2 (f:=coefC) (sz:=2) (fun _=>rfl) (outF f (vs.take i));have m8:=Po (f:=f) (l:=vs.take i);rw [Im] at m8;have cd:((outF f (vs.take i)).map coefC).length+1<=1048576:=by rw [F8]; omega
   have bu:=Bw ae;by_cases h0f:f v=0
   ·have d2:(f v != 0)=false:=by simpa using h0f
    have u9:outF f (vs.take (i+1))=outF f (vs.take i):=by rw [Db hx,Y8,outF,if_pos h0f,outF,Fp]
    simp (maxSteps:=10^6)+contextual(disch:=try exact dqd)only[ev1,simprocAttr,Cc,Ca,Cd,results9,e0,e4,e12,e13,e14,e71,e72,e73,d1,d2,An,Bc,A7,hx',ng,hI,bz,F5];refine IH (i+1,c) _ aV ⟨rfl,aV,ae,a0j,rfl,rfl,rfl,rfl,rfl,rfl,rfl,rfl,?_⟩;simp only [u9]
   ·have d2:(f v != 0)=true:=by simpa using h0f
    have u9:outF f (vs.take (i+1))=outF f (vs.take i)++[(v,f v)]:=by rw [Db hx,Y8,outF,if_neg h0f,outF]
    simp (maxSteps:=10^6)+contextual(disch:=try exact dqd)only[ev1,simprocAttr,Cc,Ca,Cd,results9,e0,e4,e12,e13,e14,e71,e72,e73,d1,d2,An,Bc,A7,hx',ng,hI,bz,hr,F5];refine IH (i+1,A4 tk' c 2) _ aV ⟨rfl,aV,bu,a0j,rfl,rfl,rfl,rfl,rfl,rfl,rfl,rfl,?_⟩;simp only [u9,F6,Cn,Ct,coefC]
 ·have d1:decide ((i:Int)<(vs.length:Int))=false:=by simpa using lt
  have fm:i=vs.length:=aA
  subst fm;rw [F2] at b6;rw [F2];have aq:(vs.all fun v=>inZ (f v))=true:=C4.2 b6;rw [aq,if_pos rfl] at jg;clear IH;have m8:=Po (f:=f) (l:=vs);generalize outF f vs=cs at *;cases hz:inZ nn with
  | false =>
   rw [hz,if_neg (by simp)] at jg;rw [hz] at hN;subst jg;simp (maxSteps:=10^6)+contextual(disch:=try exact dqd)only[ev1,simprocAttr,Cc,Ca,Cd,results9,e0,e4,e12,e13,e14,e71,e72,e73,d1,An,Bc,A7,bigC,zB,hN,Fw,rowC,Ag,Ct]
  | true =>
   rw [hz,if_pos rfl] at jg;rw [hz,show intZ nn=nn by unfold intZ; rw [if_pos hz]] at hN;have hTi c S tk k:=(Avs S tk k (c:=c)).trans (a3o S tk k);have yx S tk k:=Wd S tk k a (Gp cs nn false) aA hla (Aoq m8 vu);generalize Gp cs nn false=R at *;simp only [rowC,Ag] at hTi;simp only [An,rowC,Ag] at yx;cases zj:Hz a R with
   | true =>
    rw [zj,if_pos rfl] at jg;rw [zj] at yx;subst jg;simp (maxSteps:=10^6)+contextual(disch:=try exact dqd)only[ev1,simprocAttr,Cc,Ca,Cd,results9,e0,e4,e12,e13,e14,e71,e72,e73,d1,An,Bc,A7,bigC,zB,hN,hTi,yx,F5,rowC,Ag]
   | false =>
    rw [zj,if_neg (by simp)] at jg;rw [zj] at yx;subst jg;simp (maxSteps:=10^6)+contextual(disch:=try exact dqd)only[ev1,simprocAttr,Cc,Ca,Cd,results9,e0,e4,e12,e13,e14,e71,e72,e73,d1,An,Bc,A7,bigC,zB,hN,hTi,yx,F5,Fw,rowC,Ag,Ct]
theorem Abq (a b:List RowT) (la:a.length<=6) (lb:b.length<=6) (h0:sysE (a++b)=0) (hf:feasB (a++b)=false) (zs zs':List Int)
  (hR:∀ S tk k,cL prog 24 [An (a++b)] S tk k=some (.tup [A7 (zs.map zB),.bool true],S,tk,k)) (hc:Ti (a++b) zs) (hB:∀ z ∈ zs,z.natAbs<=10000 ^ 45)
  (ht:Xv (zs.map zB)=zs'.map zB) (bp:Ti (a++b) zs') (u4:∀ z ∈ zs',z.natAbs<=10000 ^ 45) :
  cL prog 9 [An a,An b] S tk k=some (resA2 a (zs'.take a.length),S,tk,k):=by
 have aq:=Ho (D8 h0).2.2.2;have hlen:∀ r ∈ a++b,r.1.length<=1048576:=fun r h=>by have:=J4 (aq r h); omega
 have hla:∀ r ∈ a,r.1.length<=1048576:=fun r h=>hlen r (Cw.2 (.inl h));have ll:=Aok h0;have p45:10000 ^ 45<10000 ^ 200:=aR
 have a0c:∀ z:Int,z.natAbs<=10000 ^ 45->okZ z=true:=fun z h=>Nn aA;have zg:∀ z:Int,z.natAbs<=10000 ^ 45->(zB z).2.length<=100:=fun z h=>by
  have h2:10000 ^ 45<10000 ^ 100:=aR
  exact A9.2 aA
 have hm:∀ m ∈ zs.map zB,m.2.length<=100:=fun m h=>by
  obtain ⟨z,hz,rfl⟩:=Fg.1 h;exact zg z (hB z hz)
 obtain ⟨xs,ur⟩:∃ xs,xs=zs'.take a.length:=⟨_,rfl⟩;have hzl:zs.length=a.length+b.length:=by have:=hc.len; simpa using this
 have a2h:zs'.length=a.length+b.length:=by have:=bp.len; simpa using this
 have zb:xs.length=a.length:=by rw [ur,Im]; omega
 have hxB:∀ z ∈ xs,z.natAbs<=10000 ^ 45:=fun z h=>u4 z (by rw [ur] at h; exact Su h);have hmx:∀ m ∈ xs.map zB,m.2.length<=100:=fun m h=>by
  obtain ⟨z,hz,rfl⟩:=Fg.1 h;exact zg z (hxB z hz)
 have hxn:∀ i,i<a.length->(rwA a i).2.2=false->0<=at_ 0 xs i:=fun i hi he=>by
  have e1:rwA (a++b) i=rwA a i:=by
   unfold rwA at_;rw [Ae,Ae,Cu hi]
  have e2:at_ 0 xs i=at_ 0 zs' i:=by
   unfold at_;rw [ur,Ae,Ae,I2,if_pos hi]
  rw [e2];exact bp.nn i aC (by rw [e1]; exact he)
 have hF S tk k:=Jt S tk k (a++b) aC hlen;rw [hf,h0] at hF;have hT S tk k:=Ad4 S tk k (a++b) (zs.map zB) hlen aC aC hm;rw [Ah6 hc (fun z hz=>a0c z (hB z hz)) h0,if_pos rfl,ht] at hT;have hC S tk k:=Mx S tk k a (xs.map zB) hla aA hmx;have hE:=Alf zb hxn (fun z hz=>a0c z (hxB z hz)) ll;have hV S tk k:=Q9 S tk k a ll;obtain ⟨kv,kn⟩:=Ap9 la ll hxB;have a0b:∀ v,sumF a (xs.map zB) v=Yg a xs v:=fun v=>Aoj zb (fun z hz=>a0c z (hxB z hz)) _;have a3p:N4 a (xs.map zB)=Adw a xs:=Aoj zb (fun z hz=>a0c z (hxB z hz)) _;unfold N3 at hC;simp only [hE,if_true,a0b,a3p] at hC;subst ur;exact Abp S tk k a b la lb hla (varsF a) (D8 ll).2.2.1 (Yg a _) (Adw a _) (zs.map zB) (zs'.map zB) (by simpa using hzl) (by simpa using a2h) (fun v _ S tk k=>by
   have:=Akq S tk k (decide (Yg a (zs'.take a.length) v<0)) (dig (Yg a (zs'.take a.length) v).natAbs) (by have:=K2 (kv v); omega);rw [V_zA (kv v)] at this; exact this) (fun S tk k=>by
   have:=Akq S tk k (decide (Adw a (zs'.take a.length)<0)) (dig (Adw a (zs'.take a.length)).natAbs) (by have:=K2 kn; omega);rw [V_zA kn] at this; exact this)
  (fun S tk k=>Ab4 S tk k _ _ false (by have:=Po (f:=Yg a (zs'.take a.length)) (l:=varsF a); have:=(D8 ll).2.2.1; omega)) hF hR hT (by rw [<- gS]; exact hC) hV
end
end
section
open Go Go.Proofs.Tryz
def findS (name:ByteArray):List (ByteArray × Int)->Int
 | []=>0
 | p :: r=>if sEq p.1 name then p.2 else findS name r
def Up (name:ByteArray):List (ByteArray × Int)->Nat->Int × Nat
 | [],_=>(-1,0)
 | p :: r,i=>if sEq p.1 name then (i,1) else ((Up name r (i+1)).1,(Up name r (i+1)).2+1)
def G0 (pt:List (ByteArray × Int)):Int->List (ByteArray × Int)->Int × Bool
 | s,[]=>(s,true)
 | s,c :: r=>if (mulS c.2 (findS c.1 pt)).2 then (if (addS s (mulS c.2 (findS c.1 pt)).1).2 then G0 pt (addS s (mulS c.2 (findS c.1 pt)).1).1 r else (0,false)) else (0,false)
def He (cs:List (ByteArray × Int)) (n:Int) (pt:List (ByteArray × Int)):Int × Bool:=if Az cs n=0 then G0 pt n cs else (0,false)
section
variable (S:List Ent) (tk:List Nat) (k:Nat)
theorem Apt (p c:ByteArray × Int) (id ep:Nat) (h:entAt S id ep=some (coefC c)):cL prog 65 [.agg (coefC p),.ref id ep 0] S tk k=some (.bool (sEq p.1 c.1),S,tk,k+1):=by
 refine opS func65 ntmps65 ?_;simp (maxSteps:=10^6)+contextual(disch:=try exact dqd)only[evs1,simprocAttr,Cc,Ca,Cd,results65,coefC,h]
theorem Tk (pt:List (ByteArray × Int)) (c:ByteArray × Int) (id ep:Nat) (hlen:pt.length<=1048576) (h:entAt S id ep=some (coefC c)) :
  cL prog 64 [Ag pt,.fn 65 [.ref id ep 0]] S tk k=some (.int (Up c.1 pt 0).1,S,tk,k+(Up c.1 pt 0).2):=by
 refine opS func64 ntmps64 ?_;simp (maxSteps:=10^6)+contextual(disch:=try exact dqd)only[evs1,simprocAttr,Cc,Ca,Cd,results64,Ag];refine Pj (P:=prog) (fun x st=>st.T.length=19/\x.1<=pt.length/\getT st.T 0=Ag pt/\getT st.T 1=.fn 65 [.ref id ep 0]/\getT st.T 7=.int pt.length/\getT st.T 8=.int (x.1:Nat)/\st.S=S/\st.tk=tk/\st.n=x.2) (fun x=>pt.length - x.1)
  (fun x=>(.int (Up c.1 (pt.drop x.1) x.1).1,S,tk,x.2+(Up c.1 (pt.drop x.1) x.1).2)) (0,k) ?_ ?_
 case refine_2=>exact ⟨rfl,Cl _,rfl,rfl,rfl,rfl,rfl,rfl,rfl⟩
 rintro ⟨i,m⟩ ⟨T,S',tk',n'⟩ ⟨hl,hi,e0,e1,e7,e8,eS,eT,eN⟩ IH;simp only at eS eT eN;subst eS eT eN;obtain ⟨g,hg,hT⟩:=Ao hl;rw [hg] at e0 e1 e7 e8;subst hT;clear hg hl;simp only at hi e8;by_cases hlt:i<pt.length
 ·have d1:decide ((i:Int)<(pt.length:Int))=true:=aH
  obtain ⟨p,hc⟩:=Ab hlt;have bp:nth (pt.map coefC) i=some (coefC p):=dI
  have hw:=Ar (i:=i) aA;have hf k:=Apt S' tk' k p c id ep h;simp only [coefC] at hf bp;rw [Au hc];simp (maxSteps:=10^6)+contextual(disch:=try exact dqd)only[evs1,simprocAttr,Cc,Ca,Cd,results64,e0,e1,e7,e8,d1,Ag,bp,hw,hf];refine ⟨fun h1=>by simp [Up,h1],fun h1=>?_⟩;rw [IH (i+1,n'+1) _ aV ⟨rfl,hlt,rfl,rfl,rfl,rfl,rfl,rfl,rfl⟩];simp [Up,h1]; omega
 ·have d1:decide ((i:Int)<(pt.length:Int))=false:=aH
  have he:i=pt.length:=aA
  simp (maxSteps:=10^6)+contextual(disch:=try exact dqd)only[evs1,simprocAttr,Cc,Ca,Cd,results64,e0,e1,e7,e8,d1,Ag];simp only [he,C9]; rfl
theorem Agj (name:ByteArray):∀ (l:List (ByteArray × Int)) (i:Nat),((Up name l i).1=-1/\findS name l=0)\/∃ j p,(Up name l i).1=((i+j:Nat):Int)/\nth l j=some p/\findS name l=p.2
 | [],_=>.inl ⟨rfl,rfl⟩
 | p :: r,i=>by
  simp only [Up,findS];by_cases h:sEq p.1 name=true
  ·rw [if_pos h,if_pos h]; exact .inr ⟨0,p,rfl,rfl,rfl⟩
  ·rw [if_neg h,if_neg h];rcases Agj name r (i+1) with ⟨h1,h2⟩|⟨j,q,h1,h2,h3⟩
   ·exact .inl ⟨h1,h2⟩
   ·exact .inr ⟨j+1,q,by rw [h1]; omega,h2,h3⟩
theorem Ab5 (cs:List (ByteArray × Int)) (n:Int) (pt:List (ByteArray × Int)) (hlen:cs.length<=1048576) (ie:pt.length<=1048576):cL prog 30 [linA cs n,Ag pt] S tk k=some (.tup [.int (He cs n pt).1,.bool (He cs n pt).2],S,tk,k):=by
 refine opP func30 ntmps30 ?_;have hC S tk k:=Ed S tk k cs n hlen;simp only [linA,Ag] at hC;simp (maxSteps:=10^6)+contextual(disch:=try exact dqd)only[ev1,simprocAttr,Cc,Ca,Cd,results30,linA,Ag,hC];refine ⟨fun h=>?_,fun h=>?_⟩
 ·have:¬ Az cs n=0:=aI
  simp [He,this]
 have h0:Az cs n=0:=aI
 have hv:He cs n pt=G0 pt n cs:=by simp [He,h0]
 rw [hv];refine loop1 (P:=prog) (fun x st=>st.T.length=54/\x.1<=cs.length/\getT st.T 1=Ag pt/\getT st.T 2=.ref 0 0 0/\getT st.T 6=.int x.2/\getT st.T 19=Ag cs/\getT st.T 20=.int cs.length/\getT st.T 21=.int (x.1:Nat)/\st.S=[⟨0,[Ag cs,.int n]⟩]) (fun x=>cs.length - x.1)
  (fun x=>.tup [.int (G0 pt x.2 (cs.drop x.1)).1,.bool (G0 pt x.2 (cs.drop x.1)).2]) (0,n) ?_ ?_
 case refine_2=>exact ⟨rfl,Cl _,rfl,rfl,rfl,rfl,rfl,rfl,rfl⟩
 rintro ⟨i,s⟩ ⟨T,S',tk',n'⟩ ⟨hl,hi,e1,e2,e6,e19,e20,e21,rfl⟩ IH;obtain ⟨g,hg,hT⟩:=Ao hl;rw [hg] at e1 e2 e6 e19 e20 e21;subst hT;clear hg hl h hv h0;simp only at hi e6 e21;by_cases hlt:i<cs.length
 ·have d1:decide ((i:Int)<(cs.length:Int))=true:=aH
  obtain ⟨c,hc⟩:=Ab hlt;have bp:nth (cs.map coefC) i=some (coefC c):=dI
  have hw:=Ar (i:=i) aA;rw [Au hc];have hI k:=Tk [⟨0,[Ag cs,.int n]⟩,⟨n',coefC c⟩] tk' k pt c 1 n' ie Za5b;simp only [Ag,coefC] at hI bp;have step:∀ v:Int,v=findS c.1 pt->True:=fun _ _=>trivial;rcases Agj c.1 pt 0 with ⟨h1,h2⟩|⟨j,p,h1,h2,h3⟩
  ·have d2:decide ((-1:Int) >= 0)=false:=rfl;rw [h1] at hI;simp (maxSteps:=10^6)+contextual(disch:=try exact dqd)only[ev1,simprocAttr,Cc,Ca,Cd,results30,e1,e2,e6,e19,e20,e21,d1,Ag,bp,hw,hI,U6,Anc,G5,d2];refine ⟨fun h5=>⟨fun h6=>?_,fun h6=>?_⟩,fun h5=>?_⟩
   ·rw [IH (i+1,_) _ aV ⟨rfl,hlt,rfl,rfl,rfl,rfl,rfl,rfl,rfl⟩];simp [G0,h2,h5,h6]
   ·simp [G0,h2,h5,h6]
   ·simp [G0,h2,h5]
  ·have h2':nth (pt.map coefC) j=some (coefC p):=by rw [Bj,h2]; rfl
   rw [Fo] at h1;have d2:decide ((j:Int) >= 0)=true:=by simp
   rw [h1] at hI;simp only [coefC] at h2';simp (maxSteps:=10^6)+contextual(disch:=try exact dqd)only[ev1,simprocAttr,Cc,Ca,Cd,results30,e1,e2,e6,e19,e20,e21,d1,Ag,bp,hw,hI,U6,Anc,G5,d2,h2'];refine ⟨fun h5=>⟨fun h6=>?_,fun h6=>?_⟩,fun h5=>?_⟩
   ·rw [IH (i+1,_) _ aV ⟨rfl,hlt,rfl,rfl,rfl,rfl,rfl,rfl,rfl⟩];simp [G0,h3,h5,h6]
   ·simp [G0,h3,h5,h6]
   ·simp [G0,h3,h5]
 ·have d1:decide ((i:Int)<(cs.length:Int))=false:=aH
  have he:i=cs.length:=aA
  simp (maxSteps:=10^6)+contextual(disch:=try exact dqd)only[ev1,simprocAttr,Cc,Ca,Cd,results30,e1,e2,e6,e19,e20,e21,d1,Ag];rw [he,C9];exact Ya32
end
end
section
open Go Go.Proofs.Tryz
set_option maxRecDepth 100000
theorem Ar1 {cs:List (ByteArray × Int)} {n:Int} : (Gp cs n false).2.2=false:=by
 unfold Gp;split
 ·split
  ·split <;> rfl
  ·split <;> rfl
 ·rfl
section
variable (S:List Ent) (tk:List Nat) (k:Nat)
theorem We (a b:List RowT) (la:a.length<=6) (lb:b.length<=6) (hlen:∀ r ∈ a++b,r.1.length<=1048576) (h:sysE (a++b)≠0):cL prog 9 [An a,An b] S tk k=some (.tup [.agg (rowC ([],0,false)),.int (sysE (a++b))],S,tk,k):=by
 have hJ S tk k:=(Agl S tk k).trans (Kn S tk k [a,b] (by simp) aC);have hF S tk k:=Jt S tk k (a++b) aC hlen;have d1:(sysE (a++b) != 0)=true:=aI
 simp only [Ff,Sg,Fp,An,Cn,Ct,Zl] at hJ;simp only [An] at hF;refine opP func9 ntmps9 (hp3:=rfl) ?_;simp (maxSteps:=10^6)+contextual(disch:=try exact dqd)only[ev1,simprocAttr,Cc,Ca,Cd,results9,An,hJ,hF,d1,rowC,Ag,Ct]
theorem Ri (a b:List RowT) (la:a.length<=6) (lb:b.length<=6) (h0:sysE (a++b)=0) (hf:feasB (a++b)=true) (ms:List BigT) (hR:∀ S tk k,cL prog 24 [An (a++b)] S tk k=some (.tup [A7 ms,.bool false],S,tk,k)):cL prog 9 [An a,An b] S tk k=some (.tup [.agg (rowC ([],0,false)),.int 5],S,tk,k):=by
 have aq:=Ho (D8 h0).2.2.2;have hlen:∀ r ∈ a++b,r.1.length<=1048576:=fun r h=>by have:=J4 (aq r h); omega
 have hJ S tk k:=(Agl S tk k).trans (Kn S tk k [a,b] (by simp) aC);have hF S tk k:=Jt S tk k (a++b) aC hlen;rw [hf,h0] at hF;simp only [Ff,Sg,Fp,An,Cn,Ct,Zl] at hJ;simp only [An] at hF hR;simp only [A7] at hR;refine opP func9 ntmps9 (hp3:=rfl) ?_;simp (maxSteps:=10^6)+contextual(disch:=try exact dqd)only[ev1,simprocAttr,Cc,Ca,Cd,results9,An,hJ,hF,hR,bne_self_eq_false,F5,Fw,rowC,Ag,Ct]
theorem Ur (a b:List RowT) (la:a.length<=6) (lb:b.length<=6) (h0:sysE (a++b)=0) (hf:feasB (a++b)=true):cL prog 9 [An a,An b] S tk k=some (.tup [.agg (rowC ([],0,false)),.int 5],S,tk,k):=by
 obtain ⟨ms,hR,-⟩:=Ant (a++b) aC h0;rw [hf] at hR;exact Ri S tk k a b la lb h0 hf ms hR
end
theorem Ad8 (a b:List RowT) (la:a.length<=6) (lb:b.length<=6) (hlen:∀ r ∈ a++b,r.1.length<=1048576):∃ (r:RowT) (e:Int),(∀ S tk k,cL prog 9 [An a,An b] S tk k=some (.tup [.agg (rowC r),.int e],S,tk,k))/\r.1.length<=24 /\
  (e=0->Hz a r=true/\r.2.2=false/\∀ v,Sat v b->¬ valR v r<=0):=by
 by_cases h0:sysE (a++b)=0
 ·cases hf:feasB (a++b) with
  | true=>exact ⟨_,_,fun S tk k=>Ur S tk k a b la lb h0 hf,by simp,fun h=>aT⟩
  | false =>
   obtain ⟨ms,hR,hz⟩:=Ant (a++b) aC h0;obtain ⟨zs,rfl,hc,hB⟩:=hz hf;rw [hf] at hR;have p45:10000 ^ 45<10000 ^ 200:=aR
   obtain ⟨zs',ht,bp,u4⟩:=Avt hc fun z h=>Nn (by have:=hB z h; omega);have ll:=Aok h0;have vu:(varsF a).length<=24:=(D8 ll).2.2.1;have a2h:zs'.length=a.length+b.length:=by have:=bp.len; simpa using this
   refine ⟨_,_,fun S tk k=>Abq S tk k a b la lb h0 hf zs zs' hR hc hB ht bp (u4 _ hB),?_,fun he=>?_⟩
   ·have m8:=Po (f:=Yg a (zs'.take a.length)) (l:=varsF a);unfold resT resG;split
    ·split
     ·split
      ·simp only;exact Ya1m
      ·simp
     ·simp
    ·simp
   ·unfold resT resG at he ⊢;split at he
    ·rename_i h1;rw [if_pos h1];split at he
     ·rename_i h2;rw [if_pos h2];split at he
      ·rename_i h3;rw [if_pos h3];refine ⟨h3,Ar1,fun v hb hv=>?_⟩;have k7:=Yt h3;have hcc:Az (outF (Yg a (zs'.take a.length)) (varsF a)) (Adw a (zs'.take a.length))=0:=by
        refine Od fun hn=>?_;unfold Gp at k7;rw [if_neg hn] at k7;exact hn k7
       refine Ah3 (xs:=zs'.take a.length) (ys:=zs'.drop a.length) (by rw [I9]; exact bp) cV h0 ll hb ?_;exact Ar2 hcc hv
      ·cases he
     ·cases he
    ·cases he
 ·exact ⟨_,_,fun S tk k=>We S tk k a b la lb hlen h0,by simp,fun h=>absurd h h0⟩
def M0 (l:List RowT):Bool:=decide (l.length<=6) && l.all fun r=>decide (r.1.length<=6)
theorem Ago {l:List RowT} (h:M0 l=true):l.length<=6/\∀ r ∈ l,r.1.length<=6:=by
 unfold M0 at h;rw [Ci,decide_eq_true_iff,C4] at h;exact ⟨h.1,fun r hr=>by simpa using h.2 r hr⟩
def Gz (p:List (ByteArray × Int)):Bool->List RowT->Bool × Bool
 | is,[]=>(is,true)
 | is,r :: l=>if (He r.1 r.2.1 p).2=true then Gz p (is && (decide ((He r.1 r.2.1 p).1<=0) && (!r.2.2 || ((He r.1 r.2.1 p).1 == 0)))) l else (false,false)
section
variable (S:List Ent) (tk:List Nat) (k:Nat)
theorem Z2 (l:List RowT):cL prog 7 [An l] S tk k=some (.bool (M0 l),S,tk,k):=by
 refine opP func7 ntmps7 (hp3:=rfl) ?_;by_cases h6:l.length<=6;case neg =>
  have d0:decide ((l.length:Int) > 6)=true:=aC
  have hr:M0 l=false:=by unfold M0; rw [decide_eq_false h6]; rfl
  rw [hr]
  simp (maxSteps:=10^6)+contextual(disch:=try exact dqd)only[ev1,simprocAttr,Cc,Ca,Cd,results7,An,d0]
 have d0:decide ((l.length:Int) > 6)=false:=aC
 simp (maxSteps:=10^6)+contextual(disch:=try exact dqd)only[ev1,simprocAttr,Cc,Ca,Cd,results7,An,d0];refine loop1 (P:=prog) (fun x st=>st.T.length=21/\(x<=l.length)/\(M0 l=(l.drop x).all fun r=>decide (r.1.length<=6))/\getT st.T 0=An l/\getT st.T 3=.int (x:Nat)/\st.S=[]) (fun x=>l.length - x) (fun x=>.bool (M0 l)) (0) ?_ ?_;case refine_2=>exact ⟨rfl,Cl _,by unfold M0; rw [decide_eq_true h6]; rfl,rfl,rfl,rfl⟩
 rintro i ⟨T,S',tk',n'⟩ ⟨hl,hi,hE,e0,e3,eS⟩ IH;subst eS;obtain ⟨g,hg,hT⟩:=Ao hl;rw [hg] at e0 e3;subst hT;clear hg hl;have bz:=Ar (i:=i) aA;by_cases la:i<l.length
 ·have d1:decide ((i:Int)<(l.length:Int))=true:=bR
  obtain ⟨r,hx⟩:=Ab la;have hx':=Jz hx;rw [Au hx,Oh] at hE;simp only [rowC,Ag] at hx';by_cases hc:r.1.length<=6
  ·have d2:decide ((r.1.length:Int) > 6)=false:=aC
   rw [decide_eq_true hc,G2] at hE;simp (maxSteps:=10^6)+contextual(disch:=try exact dqd)only[ev1,simprocAttr,Cc,Ca,Cd,results7,e0,e3,An,Ag,d1,d2,hx',bz];exact IH (i+1) _ aF ⟨rfl,aE,hE,aG,aG,aG⟩
  ·have d2:decide ((r.1.length:Int) > 6)=true:=aC
   rw [decide_eq_false hc,F4] at hE;simp (maxSteps:=10^6)+contextual(disch:=try exact dqd)only[ev1,simprocAttr,Cc,Ca,Cd,results7,e0,e3,An,Ag,d1,d2,hx',hE]
 ·have d1:decide ((i:Int)<(l.length:Int))=false:=bR
  have fm:i=l.length:=aA
  rw [fm,C9] at hE;simp (maxSteps:=10^6)+contextual(disch:=try exact dqd)only[ev1,simprocAttr,Cc,Ca,Cd,results7,e0,e3,An,d1,hE,List.all_nil]
theorem Ke (l:List RowT) (p:List (ByteArray × Int)) (hl:l.length<=1000) (dp:∀ r ∈ l,r.1.length<=1048576) (hp:p.length<=1048576):cL prog 10 [An l,Ag p] S tk k=some (.tup [.bool (Gz p true l).1,.bool (Gz p true l).2],S,tk,k):=by
 refine opP func10 ntmps10 (hp3:=rfl) ?_;simp (maxSteps:=10^6)+contextual(disch:=try exact dqd)only[ev1,simprocAttr,Cc,Ca,Cd,results10,An,Ag];refine loop1 (P:=prog) (fun x st=>st.T.length=46/\(x.1<=l.length)/\(Gz p true l=Gz p x.2 (l.drop x.1))/\getT st.T 0=An l/\getT st.T 1=Ag p/\getT st.T 6=.prim (.bool x.2)/\getT st.T 7=.int (x.1:Nat)/\st.S=[]) (fun x=>l.length - x.1) (fun x=>.tup [.bool (Gz p true l).1,.bool (Gz p true l).2]) (0,true) ?_ ?_;case refine_2=>exact ⟨rfl,Cl _,rfl,rfl,rfl,rfl,rfl,rfl⟩
 rintro ⟨i,b⟩ ⟨T,S',tk',n'⟩ ⟨hl,hi,hE,e0,e1,e6,e7,eS⟩ IH;simp only at hi hE e0 e1 e6 e7 eS;subst eS;obtain ⟨g,hg,hT⟩:=Ao hl;rw [hg] at e0 e1 e6 e7;subst hT;clear hg hl;have bz:=Ar (i:=i) aA;by_cases la:i<l.length
 ·have d1:decide ((i:Int)<(l.length:Int))=true:=bR
  obtain ⟨r,hx⟩:=Ab la;have hx':=Jz hx;have hV S tk k:=Ab5 S tk k r.1 r.2.1 p (dp r (Ak hx)) hp;rw [Au hx,Gz] at hE;obtain ⟨⟨v,o⟩,hvo⟩:∃ q,He r.1 r.2.1 p=q:=⟨_,rfl⟩;rw [hvo] at hV hE;simp only [linA,Ag] at hV;simp only [rowC,Ag] at hx';simp only at hE;cases o with
  | false =>
   rw [if_neg (by simp)] at hE;rw [hE];simp (maxSteps:=10^6)+contextual(disch:=try exact dqd)only[ev1,simprocAttr,Cc,Ca,Cd,results10,e0,e1,e6,e7,An,Ag,d1,hx',hV,Fw]
  | true =>
   rw [if_pos rfl] at hE;cases c2:decide (v<=0) <;> cases c3:(v == 0) <;> cases he:r.2.2 <;> cases b;all_goals
    rw [c2,c3,he] at hE
    simp only [G2,F4,jA,kD,F5,Fw,S8,I5,jS,Fs] at hE
    simp (maxSteps:=10^6)+contextual(disch:=try exact dqd)only[ev1,simprocAttr,Cc,Ca,Cd,results10,e0,e1,e6,e7,An,Ag,d1,hx',hV,he,c2,c3,bz,Fw,F5]
    exact IH (i+1,_) _ aF ⟨rfl,aE,hE,aG,aG,aG,aG,aG⟩
 ·have d1:decide ((i:Int)<(l.length:Int))=false:=bR
  have fm:i=l.length:=aA
  rw [fm,C9,Gz] at hE;rw [hE];simp (maxSteps:=10^6)+contextual(disch:=try exact dqd)only[ev1,simprocAttr,Cc,Ca,Cd,results10,e0,e1,e6,e7,An,Ag,d1]
end
end
section
open Go Go.Proofs.Tryz
set_option maxHeartbeats 4000000
set_option maxRecDepth 100000
theorem Aux {a b:Int} (h:(mulS a b).2=true):(mulS a b).1=a*b:=by
 unfold mulS chk at h ⊢;split at h
 ·rename_i hc; rw [if_pos hc]
 ·cases h
theorem Att {a b:Int} (h:(addS a b).2=true):(addS a b).1=a+b:=by
 unfold addS chk at h ⊢;split at h
 ·rename_i hc; rw [if_pos hc]
 ·cases h
def linZ (pt:List (ByteArray × Int)):List (ByteArray × Int)->Int
 | []=>0
 | c :: cs=>c.2*findS c.1 pt+linZ pt cs
theorem Xw {pt:List (ByteArray × Int)} : ∀ {cs:List (ByteArray × Int)} {s:Int},(G0 pt s cs).2=true->(G0 pt s cs).1=s+linZ pt cs
 | [],s,_=>by simp [G0,linZ]
 | c :: cs,s,h=>by
  unfold G0 at h ⊢;by_cases h1:(mulS c.2 (findS c.1 pt)).2=true
  ·rw [if_pos h1] at h ⊢;by_cases h2:(addS s (mulS c.2 (findS c.1 pt)).1).2=true
   ·rw [if_pos h2] at h ⊢;rw [Xw h,Att h2,Aux h1,linZ]; omega
   ·rw [if_neg h2] at h; cases h
  ·rw [if_neg h1] at h; cases h
def ptV (pt:List (ByteArray × Int)) (s:ByteArray):Rat:=((findS s pt:Int):Rat)
theorem Amy {pt:List (ByteArray × Int)} : ∀ {cs:List (ByteArray × Int)},linV (ptV pt) cs=((linZ pt cs:Int):Rat)
 | []=>rfl
 | c :: cs=>by rw [linV,Amy,linZ,Ox,Cv]; rfl
theorem Ahs {r:RowT} {pt:List (ByteArray × Int)} (h:(He r.1 r.2.1 pt).2=true):valR (ptV pt) r=(((He r.1 r.2.1 pt).1:Int):Rat):=by
 unfold He at h ⊢;split at h
 ·rename_i hc;rw [if_pos hc,Xw h,valR,Amy,Ox]; grind
 ·cases h
theorem Zn {p:List (ByteArray × Int)} : ∀ {l:List RowT} {b:Bool},(Gz p b l).2=true->(Gz p b l).1=true->b=true/\Sat (ptV p) l
 | [],b,_,h=>⟨h,fun r hr=>by cases hr⟩
 | r :: l,b,h1,h2=>by
  unfold Gz at h1 h2;by_cases hv:(He r.1 r.2.1 p).2=true
  ·rw [if_pos hv] at h1 h2;obtain ⟨g1,g2⟩:=Zn h1 h2;simp only [Ci,decide_eq_true_eq,Ht,Gb,beq_iff_eq] at g1;obtain ⟨g1,g3,g4⟩:=g1;refine ⟨g1,fun q hq=>?_⟩;rcases C6.1 hq with rfl|hq
   ·rw [Ahs hv];refine ⟨by
      have:(((He q.1 q.2.1 p).1:Int):Rat)<=((0:Int):Rat):=Rat.intCast_le_intCast.2 g3;exact this,fun he=>?_⟩
    rcases g4 with g4|g4
    ·rw [he] at g4; cases g4
    ·rw [g4]; rfl
   ·exact g2 q hq
  ·rw [if_neg hv] at h1; cases h1
theorem Acu {p:List (ByteArray × Int)} {r:RowT} (he:r.2.2=false) (h:(Gz p true [r]).2=true):((Gz p true [r]).1=true↔valR (ptV p) r<=0)/\(valR (ptV p) r<1->(Gz p true [r]).1=true):=by
 unfold Gz at h ⊢;by_cases hv:(He r.1 r.2.1 p).2=true
 ·rw [if_pos hv] at h ⊢;rw [Gz,Ahs hv,he];simp only [Fw,S8,jA,G2,decide_eq_true_eq];refine ⟨⟨fun hn=>?_,fun hn=>?_⟩,fun hn=>?_⟩
  ·have:(((He r.1 r.2.1 p).1:Int):Rat)<=((0:Int):Rat):=Rat.intCast_le_intCast.2 hn;exact this
  ·have:(((He r.1 r.2.1 p).1:Int):Rat)<=((0:Int):Rat):=hn;exact Rat.intCast_le_intCast.1 this
  ·have:(((He r.1 r.2.1 p).1:Int):Rat)<((1:Int):Rat):=hn;have:=Rat.intCast_lt_intCast.1 this;omega
 ·rw [if_neg hv] at h; cases h
section
variable (S:List Ent) (tk:List Nat) (k:Nat)
theorem sat_c {A B:List (List AV)} {c d:Cap} : cL prog 10 [.frz A c,.frz B d] S tk k=cL prog 10 [.frz A .unk,.frz B .unk] S tk k:=Wa rfl rfl rfl
theorem K3 (a b:List RowT) (p:List (ByteArray × Int)):cL prog 3 [An a,An b,Ag p] S tk k=some (.bool true,S,tk,k):=by
 have hA S tk k:=Ajn S tk k;have wb S tk k:=Z2 S tk k a;have hL2 S tk k:=Z2 S tk k b;simp only [An] at wb hL2;refine opP func3 ntmps3 (hp3:=rfl) ?_;by_cases h1:M0 a=true;case neg =>
  rw [iZ] at h1
  rw [h1] at wb
  simp (maxSteps:=10^6)+contextual(disch:=try exact dqd)only[ev1,simprocAttr,Cc,Ca,Cd,results3,An,Ag,wb,hL2,hA,F5,Fw]
 by_cases h2:M0 b=true;case neg =>
  rw [iZ] at h2
  rw [h1] at wb
  rw [h2] at hL2
  simp (maxSteps:=10^6)+contextual(disch:=try exact dqd)only[ev1,simprocAttr,Cc,Ca,Cd,results3,An,Ag,wb,hL2,hA,F5,Fw]
 obtain ⟨a1,a2⟩:=Ago h1;obtain ⟨b1,b2⟩:=Ago h2;rw [h1] at wb;rw [h2] at hL2;by_cases h3:p.length<=12;case neg =>
  have d1:decide (((p.length:Nat):Int) > 12)=true:=aC
  simp (maxSteps:=10^6)+contextual(disch:=try exact dqd)only[ev1,simprocAttr,Cc,Ca,Cd,results3,An,Ag,wb,hL2,hA,d1,F5,Fw]
 have d1:decide (((p.length:Nat):Int) > 12)=false:=aC
 have hla:∀ r ∈ a,r.1.length<=1048576:=fun r h=>by have:=a2 r h; omega
 have hlb:∀ r ∈ b,r.1.length<=1048576:=fun r h=>by have:=b2 r h; omega
 obtain ⟨r,e,hR,jp,a0k⟩:=Ad8 a b a1 b1 (fun r h=>by
  rcases Cw.1 h with h|h
  ·exact hla r h
  ·exact hlb r h)
 have di S tk k:=Ke S tk k a p aA hla aA;have bg S tk k:=Ke S tk k b p aA hlb aA;have de c d S tk k:=(sat_c S tk k (c:=c) (d:=d)).trans (Ke S tk k [r] p (by simp) (fun q h=>by rw [F0.1 h]; omega) aA);simp only [An,Ag,Cn,Ct,rowC] at hR di bg de;by_cases he:e=0;case neg =>
  have d2:(e != 0)=true:=eE
  simp (maxSteps:=10^6)+contextual(disch:=try exact dqd)only[ev1,simprocAttr,Cc,Ca,Cd,results3,An,Ag,wb,hL2,hA,d1,hR,d2,F5,Fw]
 obtain ⟨f1,f2,f3⟩:=a0k he;have d2:(e != 0)=false:=by simp [he]
 have k1:(Gz p true a).2=true->(Gz p true a).1=true->(Gz p true [r]).2=true->(Gz p true [r]).1=true:=fun g1 g2 g3 =>
  (Acu f2 g3).2 (Aid f1 (Zn g1 g2).2)
 have k2:(Gz p true b).2=true->(Gz p true b).1=true->(Gz p true [r]).2=true->(Gz p true [r]).1=false:=fun g1 g2 g3 =>
  Bool.eq_false_iff.2 fun g4=>f3 _ (Zn g1 g2).2 ((Acu f2 g3).1.1 g4)
 generalize (Gz p true a).1=x at *;generalize (Gz p true a).2=ok at *;generalize (Gz p true b).1=y at *;generalize (Gz p true b).2=is at *;generalize (Gz p true [r]).1=z at *;generalize (Gz p true [r]).2=was at *;have k:((!ok || !x || !was || z)=true)/\((!is || !y || !was || !z)=true):=by
  cases ok <;> cases x <;> cases was <;> cases is <;> cases y <;> cases z <;> simp at k1 k2 ⊢
 have kA:ok=false\/(ok=true/\x=false)\/(ok=true/\x=true/\was=false)\/(ok=true/\x=true/\was=true/\z=true):=by
  revert k; cases ok <;> cases x <;> cases was <;> cases z <;> simp
 have kB:is=false\/(is=true/\y=false)\/(is=true/\y=true/\was=false)\/(is=true/\y=true/\was=true/\z=false):=by
  revert k; cases is <;> cases y <;> cases was <;> cases z <;> simp
 clear k k1 k2 f1 f2 f3 a0k;rcases kA with rfl|⟨rfl,rfl⟩|⟨rfl,rfl,rfl⟩|⟨rfl,rfl,rfl,rfl⟩ <;> rcases kB with rfl|⟨rfl,rfl⟩|⟨rfl,rfl,kw⟩|⟨rfl,rfl,kw,kz⟩ <;> first
  | contradiction
  | (try subst kw
     try subst kz
     simp (maxSteps := 10^6) +contextual (disch := try exact dqd) only [ev1, simprocAttr, Cc, Ca, Cd, results3, An, Ag, wb, hL2, hA, d1, hR, d2, di, bg, de, F5, Fw])
end
end
end Go.Proofs.YthelkgdmgihhiaaGreat
