/- Part 23. -/
import Derived.Test.YtcandeobhlfkbaaGreatZF22
open And renaming intro->Bu
open Bool renaming and_eq_true->Ch,or->Cl,or_false->Fv,or_assoc->Fy,false_or->I1,false_ne_true->Ob
open Go.IntKind renaming i64->Cf
open Go.Proofs.YtcandeobhlfkbaaGreat.AV renaming bool->Cb,int->Cd,str->Ce
open Go.Value renaming int->Sl
open List renaming replicate->Ci,length_cons->Ck,mem_cons->Cn,map_cons->Cp,cons_append->Cr,length_append->Cs,getElem?_append_left->Ct,length_nil->Cu,all_eq_true->Cv,nil_append->Cw,mem_cons_of_mem->Cz,mem_append->C4,getElem?_append_right->C6,mem_cons_self->C7,range->De,append_assoc->Fa,take_of_length_le->Fc,length_eq_zero_iff->Fh,map_nil->Fi,length_map->Fq,drop_eq_nil_of_le->Ft,pairwise_cons->F0,getElem?_cons_zero->F2,append_nil->F4,mem_map->F9,take_length->Gl,mem_singleton->He,map_append->Ij,mem_replicate->Im,length_take->Ix,take->Oc,length_replicate->Oj,not_mem_nil->Ol,mem_flatten->fN,map_map->iM,Pairwise->jB
open List.cons renaming injEq->I6
open Nat renaming le_refl->Cc,zero_le->Co,mul_le_mul_right->Ic,sub_self->I4,eq_zero_or_pos->gF
open Ne renaming symm->Oo
open Option renaming map_eq_some_iff->Ca,map_some->C3,bind_some->I7
open Option.some renaming injEq->A2
open Prod.mk renaming injEq->Cg
open Rat renaming intCast_neg->Oz
namespace Go.Proofs.YtcandeobhlfkbaaGreat
section
open Go Tryz
open Go.Proofs.Tryz renaming f67->ga28,results67->ga29
open Go.Proofs.YtcandeobhlfkbaaGreat renaming ceW->ga0,Aq->ga1,Be->ga5,Bm->ga6
set_option maxRecDepth 100000
namespace WW
abbrev ua13:Nat:=93
end WW
set_option maxHeartbeats 20000000
set_option maxRecDepth 100000
section
variable (S:List Ent) (l:List RowT) (vars:List ByteArray) (fl:Bool) (k iq eq c W nz:Nat) (z:Q)
namespace WW
theorem Ar2:At21:=Ma21
end WW
end
end
section
open Go Tryz
open Go.Proofs.Tryz renaming f67->ga28,results67->ga29
open Go.Proofs.YtcandeobhlfkbaaGreat renaming ceW->ga0,Aq->ga1,Be->ga5,Bm->ga6
set_option maxRecDepth 100000
set_option maxHeartbeats 20000000
set_option maxRecDepth 100000
section
variable (S:List Ent) (l:List RowT) (vars:List ByteArray) (fl:Bool) (k iq eq c W nz:Nat) (z:Q)
namespace WW
theorem Ar4:At22:=Ma22
end WW
end
end
section
open Go Tryz
open Go.Proofs.Tryz renaming f67->ga28,results67->ga29,func67->ga30,ntmps67->ga31
open Go.Proofs.YtcandeobhlfkbaaGreat renaming ceW->ga0,Aq->ga1,Be->ga5,Bm->ga6
set_option maxRecDepth 100000
namespace WW
abbrev ua14:Nat:=67
end WW
set_option maxHeartbeats 20000000
set_option maxRecDepth 100000
namespace WW
def M3 (iq eq:Nat) (n real:Nat) (rows cost basis flip:AV):List AV:=[.ifc 89 (rcvQ iq eq),.int (n:Nat),.int (real:Nat),rows,cost,basis,flip]
theorem mk_Q {W:Nat} (h:W<=1048576):mkA prog 57 (.int (W:Nat)) (.int (W:Nat))=some (W,4,(Ci W zeroQ).flatten):=by
 have hz:(A7 prog 57).bind (Ax prog)=some zeroQ:=bK
 have hs:(A7 prog 57).bind (szOf prog)=some 4:=bK
 obtain ⟨bb,hb,hbl⟩:∃ bb,(A7 prog 57).bind (Je prog)=some bb/\bb<=1048576:=⟨64,aL,aA⟩;exact Ya23
def Alo (S:List Ent) (iq eq:Nat) (t':Tb) (r:Rs):Prop :=
 ∃ S' k' tk' I cc,r=(.ref I.it I.et 0,S',tk',k')/\S.length<=S'.length/\A1 S' iq eq I t' cc/\(∀ j,j<S.length->j≠iq->nth S' j=nth S j)/\(∀ j,j<S.length->j≠iq->OutQ I iq j)
end WW
section
variable (S:List Ent) (tk:List Nat) (k iq eq:Nat)
namespace WW
theorem Ar6:At23:=Ma23
end WW
end
end
section
open Go
set_option maxRecDepth 100000
namespace WW
structure Ag9 (S SS:List Ent) (iq eq:Nat) (I:TI) (t:Tb) (cc:Cap) (k n8:Nat) (z:Q) (cf:AV) (n:Int):Prop where
 T:A1 SS iq eq I t cc
 E4:entAt SS S.length k=some [cf,.prim (.int .i64 n)]
 E6:entAt SS (S.length+1) (k+1)=some ceW0Q
 E8:entAt SS (S.length+2) n8=some (ceW z)
 len:SS.length=S.length+3
 fr:∀ j,j<S.length->OutQ I iq j->nth SS j=nth S j
theorem Aqi:At24:=fun {S iq eq I t cc}=>Ma24
theorem Ag9.step:At25:=fun {S SS S' iq eq I t t' cc k n8 z cf n}=>Ma25
end WW
namespace WW
theorem A1.junk:At26:=fun {S iq eq I t c}=>Ma26
def BegRQ (S:List Ent) (iq eq:Nat) (t':Tb) (r:Rs):Prop :=
 ∃ S' k' tk' I cc,r=(.ref I.it I.et 0,S',tk',k')/\S.length<=S'.length/\A1 S' iq eq I t' cc/\(∀ j,j<S.length->j≠iq->nth S' j=nth S j)/\(∀ j,j<S.length->j≠iq->OutQ I iq j)/\(I.ib<S'.length\/S'.length+15<I.ib)
theorem Alo.far:At27:=fun {S iq eq t' r}=>Ma27
end WW
end
section
open Go Tryz
open Go.Proofs.Tryz renaming func47->ga32,ntmps47->ga33,results47->ga34
set_option maxRecDepth 100000
namespace WW
abbrev ua15:Nat:=47
end WW
set_option maxHeartbeats 20000000
set_option maxRecDepth 100000
section
variable (S:List Ent) (tk:List Nat) (k iq eq:Nat)
namespace WW
theorem Aqz:At28:=Ma28
end WW
end
end
section
open Go Tryz
set_option maxHeartbeats 4000000
set_option maxRecDepth 100000
def askN (K:Nat) (l:List RowT) (vars:List ByteArray):Option Ans :=
 match Kl QQ.qF K l vars false with
 | none=>none
 | some (a,true)=>some a
 | some (_,false)=>(Kl WW.qF K l vars false).map (·.1)
section
variable (S:List Ent) (tk:List Nat) (k:Nat)
theorem Aav (l:List RowT) (hl:l.length<=1000) (hn:(B4 l).length<=1000) (vars:List ByteArray) (lq:vars.length<=1000) (hv:∀ r ∈ l,∀ c ∈ r.1,c.1 ∈ vars) (hc:∀ r ∈ l,i64 r.2.1/\∀ c ∈ r.1,i64 c.2) (d6:fewC l) (K:Nat) (a:Ans) (hS:askN K l vars=some a) (ha:a.least=none) :
  cL prog 26 [Ap l,Ar vars,.prim (.pointer none)] S tk k=some (.agg (ansC a.f a.pt a.nu .unk .unk (some (0,0)) false),S,tk,k):=by
 unfold askN at hS;cases h1:Kl QQ.qF K l vars false with
 | none=>rw [h1] at hS; simp at hS
 | some p =>
  obtain ⟨a1,ok1⟩:=p;rw [h1] at hS;obtain ⟨r1,cd,S1,tk1,k1,c1,c2,q1,b1,rfl,hl1,b8,hs1,hs2⟩:=QQ.Aqz [(⟨0,ans0⟩:Ent),(⟨1,[.prim (.bool false)]⟩:Ent)] [] 2 1 1 l false hl hn vars lq hv hc d6 (by simp) rfl K a1 ok1 h1;simp only [ans0,Ap,Ar] at cd;have hi1:Afy prog 84=false:=aL
  have qf:Afy prog 89=false:=aL
  have hN1:∀ e:Ent,nth (S1++[e]) S1.length=some e:=fun e=>by rw [Ae,C6 (Cc _),I4]; rfl
  have fj:over [AV.prim (.bool false),.frz [] .nilc,.frz [] .nilc,.prim (.bool false),.frz [] .nilc,.prim (.bool false),.frz [] .nilc,.prim (.bool false)] 0 (ansC a1.f a1.pt a1.nu c1 c2 q1 b1)=some (ansC a1.f a1.pt a1.nu c1 c2 q1 b1):=Tn (by rw [J0]; rfl);have jx:∀ f p n c1 c2 q b,takeN 8 (ansC f p n c1 c2 q b)=some (ansC f p n c1 c2 q b):=fun f p n c1 c2 q b=>by
   have:=Aa0 (r:=[]) (J0 (f:=f) (p:=p) (n:=n) (c1:=c1) (c2:=c2) (q:=q) (b:=b));exact Ya15
  have h10:nth S1 0=some ⟨0,ans0⟩:=by rw [b8 0 (by simp) aA]; rfl
  have a2n:S1.length=2:=by rw [hl1]; rfl
  have hN0:∀ e:Ent,nth (S1++[e]) 0=some ⟨0,ans0⟩:=fun e=>by rw [Bo aA]; exact h10
  have hNP:∀ e x:Ent,nth (put (S1++[e]) 0 x) 0=some x:=fun e x=>Dq (by simp);simp only [ans0] at hN0;cases ok1 with
  | true =>
   simp only [A2] at hS;subst hS;obtain ⟨rfl,rfl⟩:=hs2 ha;refine opP func26 ntmps26 (hp3:=rfl) ?_;simp (maxSteps:=10^6)+contextual(disch:=try exact dqd)only[ev1,simprocAttr,Cd,Cb,Ce,results26,Ap,Ar,cd,hi1,qf,ifcA,hN1,fj,J0,Ys,jx,hN0,hNP];rfl
  | false =>
   cases h2:Kl WW.qF K l vars false with
   | none=>rw [h2] at hS; simp at hS
   | some p =>
    obtain ⟨a2,ok2⟩:=p;rw [h2] at hS;simp only [C3,A2] at hS;subst hS;obtain ⟨r2,hc2,S2,tk2,k2,c3,c4,q2,b2,rfl,hl2,az,hs3,tp⟩:=WW.Aqz (S1++[(⟨k1,ansC a1.f a1.pt a1.nu c1 c2 q1 b1⟩:Ent)]) tk1 (k1+1) 1 0 l false hl hn vars lq hv hc d6 aB ⟨⟩ K a2 ok2 h2;obtain ⟨rfl,rfl⟩:=tp ha;simp only [Ap,Ar] at hc2;have hl22:S2.length=3:=by rw [hl2]; simp [a2n]
    have h20:nth S2 0=some ⟨0,ans0⟩:=by rw [az 0 (by simp) aA,Bo aA]; exact h10
    have h2N:nth S2 S1.length=some ⟨k1,ansC a1.f a1.pt a1.nu c1 c2 q1 b1⟩:=by rw [az _ (by simp) aA]; exact hN1 _
    have hP2:∀ x:Ent,nth (put S2 S1.length x) S1.length=some x:=fun x=>Dq aA;have a1o:∀ x:Ent,nth (put S2 S1.length x) 0=some ⟨0,ans0⟩:=fun x=>by rw [Ad aA]; exact h20
    have a2o:∀ x y:Ent,nth (put (put S2 S1.length x) 0 y) 0=some y:=fun x y=>Dq dN;have il:over (ansC a1.f a1.pt a1.nu c1 c2 q1 b1) 0 (ansC a2.f a2.pt a2.nu c3 c4 none false)=some (ansC a2.f a2.pt a2.nu c3 c4 none false):=Tn (by rw [J0,J0]);have xw:over [AV.prim (.bool false),.frz [] .nilc,.frz [] .nilc,.prim (.bool false),.frz [] .nilc,.prim (.bool false),.frz [] .nilc,.prim (.bool false)] 0 (ansC a2.f a2.pt a2.nu c3 c4 none false)=some (ansC a2.f a2.pt a2.nu c3 c4 none false):=Tn (by rw [J0]; rfl);simp only [ans0] at a1o;have hbl:bldA (some []) (fieldsOf prog 89) []=some (.agg []):=aL
    refine opP func26 ntmps26 (hp3:=rfl) ?_;simp (maxSteps:=10^6)+contextual(disch:=try exact dqd)only[ev1,simprocAttr,Cd,Cb,Ce,results26,Ap,Ar,cd,hi1,qf,ifcA,hN1,fj,J0,Ys,jx,hc2,h2N,hP2,a1o,a2o,il,xw,hbl];rfl
end
end
section
open Go
theorem Akt {vars:List ByteArray} {r:RowT} (h:B5 r.1 r.2.1=0) (hm:∀ c ∈ r.1,c.1 ∈ vars):G5 vars r/\Hg 1000000000000 r:=by
 obtain ⟨h1,h2⟩:=Y6 h;have h3:=Aic h;refine ⟨⟨aC,fun c hc=>by have:=(h2 c hc).1; unfold i64; omega,hm,?_⟩,⟨aA,h1,fun c hc=>(h2 c hc).1⟩⟩;have key:∀ (cs:List (ByteArray × Int)),IncC cs->(∀ c ∈ cs,c.1 ∈ vars)->(cs.map fun c=>idxV vars c.1).Pairwise (·≠·):=by
  intro cs;induction cs with
  | nil=>intro _ _; exact jB.nil
  | cons c cs ih =>
   intro hi hm;have hp:=F0.1 (show (c.1 :: cs.map (·.1)).Pairwise (fun a b=>nm a<nm b) from hi);rw [Cp];refine F0.2 ⟨fun x hx e=>?_,ih hp.2 fun c' h=>hm c' (Cz _ h)⟩;obtain ⟨c',b9,rfl⟩:=F9.1 hx;have e1:=Abu (hm c (C7 ..));have e2:=Abu (hm c' (Cz _ b9));rw [e,e2] at e1;simp only [A2] at e1;have:=hp.1 c'.1 (F9.2 ⟨c',b9,rfl⟩);rw [e1] at this;exact List.lt_irrefl _ this
 exact key _ h3 hm
theorem Ago {l:List RowT} {vars:List ByteArray} (h:D7 l=0) (hm:∀ r ∈ l,∀ c ∈ r.1,c.1 ∈ vars):∀ r ∈ l,G5 vars r/\Hg 1000000000000 r:=fun r hr=>Akt (Ry h r hr) (hm r hr)
theorem Afr {G:Q->Prop} {vars:List ByteArray} {M:Nat} {l:List RowT} {t:Tb} (hr:∀ r ∈ l,G5 vars r/\Hg M r) (h:BInv G vars (2*vars.length+neqs l) (2*vars.length+neqs l+l.length+1) l t):Ints l.length (2*vars.length+neqs l+l.length) M (l.length*M) (tabV t):=by
 refine ⟨fun i j hi hj=>?_,fun j hj=>?_⟩
 ·obtain ⟨w,e,hw⟩:=Xx (real:=2*vars.length+neqs l) (W:=2*vars.length+neqs l+l.length+1) hr i j;exact ⟨w,by rw [<- e]; exact h.vals i hi j,hw⟩
 ·show ∃ z:Int,qv (at_ q0 t.cost j)=_/\_;rw [h.costs];split
  ·obtain ⟨w,e,hw⟩:=Aco (M:=M) (n:=l.length) (f:=fun i=>rowX vars (2*vars.length+neqs l) (2*vars.length+neqs l+l.length+1) l i j) fun i _=>Xx hr i j;exact ⟨-w,by rw [e,Oz],aA⟩
  ·exact ⟨0,rfl,by simp⟩
theorem Ah7 {m M:Nat} (hm:m<=13) (hM:M=1000000000000):2*(bndX m M (m*M)*bndX m M (m*M))<10000 ^ 200:=by
 subst hM;have:∀ m,m<14->2*(bndX m 1000000000000 (m*1000000000000)*bndX m 1000000000000 (m*1000000000000))<10000 ^ 200:=aO
 exact this m aA
theorem Ai9 {w:Int} (h:w.natAbs<=14000000000000):Ww ((w:Int):Rat):=by
 refine ⟨w,1,aA,by rw [Rat.intCast_one]; grind,?_,?_⟩
 ·have:14000000000000<10000 ^ 200:=aO
  omega
 ·decide +kernel
theorem Ak1 {l:List RowT} {vars:List ByteArray} (hl:l.length<=13) (hr:∀ r ∈ l,G5 vars r/\Hg 1000000000000 r):(Bq WW.qF l vars false).fl=false/\Safe WW.qF gW l.length (2*vars.length+neqs l+l.length) (2*vars.length+neqs l) (tabV (Bq WW.qF l vars false)):=by
 have hf:=Afo Q0 Afc (fun w hw=>Ai9 hw) hr (Ic 1000000000000 (show l.length+1<=14 by omega));exact ⟨hf,Aqt (M:=1000000000000) (Mc:=l.length*1000000000000) aA (Afr hr (Yz Q0 (fun r h=>(hr r h).1) hf)) (Ah7 hl rfl)⟩
structure Alv (G:Q->Prop) (vars:List ByteArray) (l:List RowT) (t':Tb):Prop where
 fl:t'.fl=false
 ok:TOk G l.length (2*vars.length+neqs l+l.length) t'
 run:∃ K,∃ R:Simp.Run l.length (2*vars.length+neqs l+l.length) (2*vars.length+neqs l) K,R.t K=tabV t' /\
   Agree l.length (2*vars.length+neqs l+l.length) (R.t 0) (Simp.first l.length (2*vars.length+neqs l) (rowX vars (2*vars.length+neqs l) (2*vars.length+neqs l+l.length+1) l) fun i=>rowX vars (2*vars.length+neqs l) (2*vars.length+neqs l+l.length+1) l i (2*vars.length+neqs l+l.length))
 stop:(∀ j,j<2*vars.length+neqs l->0<=(tabV t').c j)\/∃ s,s<2*vars.length+neqs l/\(tabV t').c s<0/\∀ i,i<l.length->(tabV t').T i s<=0
def kMax (vars:List ByteArray) (l:List RowT):Nat:=(2*vars.length+neqs l+l.length) ^ l.length+1
theorem Ake {F:Fld} {G:Q->Prop} (hE:F.Exact G) {l:List RowT} {vars:List ByteArray} (hr:∀ r ∈ l,G5 vars r) (hb0:F.stop=true\/(Bq F l vars false).fl=false) (hs:Safe F G l.length (2*vars.length+neqs l+l.length) (2*vars.length+neqs l) (tabV (Bq F l vars false))) {K:Nat} (hK:kMax vars l<=K) :
  ∃ b t',H2 F K (Bq F l vars false)=some (b,t')/\((F.stop=true/\t'.fl=true)\/Alv G vars l t'):=by
 obtain ⟨b,t',h1,h2⟩:=Ah5 hE hr hb0 hs hK;refine ⟨b,t',h1,?_⟩;rcases h2 with h2|⟨h3,h4,K',R,-,h5,h6,h7⟩
 ·exact .inl h2
 ·exact .inr ⟨h3,h4,⟨K',R,h5,h6⟩,h7⟩
theorem Alv.feas {F:Fld} {G:Q->Prop} (hE:F.Exact G) {l:List RowT} {vars:List ByteArray} (hr:∀ r ∈ l,G5 vars r) {t':Tb} (h:Alv G vars l t'):J3 t'=true↔∃ v,Sat v l:=by
 obtain ⟨K,R,h1,h2⟩:=h.run;exact Agd hE hr h.ok R h1 h2 h.stop
def Ag3 (F:Fld) (G:Q->Prop) (vars:List ByteArray) (l:List RowT) (a:Ans):Prop :=
 ∃ t',Alv G vars l t'/\a.f=J3 t'/\a.pt=(if J3 t'=true then (E3 F t').1.map F.rat else [])/\a.nu=(if J3 t'=true then [] else (H3 F t').1.map F.rat)/\(F.stop=true->J3 t'=true->(E3 F t').2=false)/\(F.stop=true->J3 t'=false->(H3 F t').2=false)
theorem Vy {F:Fld} {G:Q->Prop} (hE:F.Exact G) {l:List RowT} {vars:List ByteArray} (hr:∀ r ∈ l,G5 vars r) (hb0:F.stop=true\/(Bq F l vars false).fl=false) (hs:Safe F G l.length (2*vars.length+neqs l+l.length) (2*vars.length+neqs l) (tabV (Bq F l vars false))) {K:Nat} (hK:kMax vars l<=K) :
  ∃ a ok,Kl F K l vars false=some (a,ok)/\a.least=none/\(F.stop=false->ok=true)/\(ok=true->Ag3 F G vars l a):=by
 obtain ⟨b,t',h1,h2⟩:=Ake hE hr hb0 hs hK;unfold Kl;rw [h1];simp only;rcases h2 with ⟨s1,s2⟩|h2
 ·rw [if_pos (by rw [s1,s2]; rfl)];exact ⟨_,_,rfl,rfl,fun h=>(by rw [s1] at h; cases h),fun h=>aV⟩
 ·rw [if_neg (by rw [h2.fl]; simp)];cases hf:J3 t' with
  | true =>
   rw [if_pos rfl];refine ⟨_,_,rfl,rfl,fun h=>by rw [h]; rfl,fun h=>⟨t',h2,hf.symm,by rw [if_pos hf],by rw [if_pos hf],fun h' _=>?_,fun _ h'=>(by rw [hf] at h'; cases h')⟩⟩;rw [h'] at h;simpa [h2.fl] using h
  | false =>
   rw [if_neg (by simp)];refine ⟨_,_,rfl,rfl,fun h=>by rw [h]; rfl,fun h=>⟨t',h2,hf.symm,by rw [hf]; rfl,by rw [hf]; rfl,fun _ h'=>(by rw [hf] at h'; cases h'),fun h' _=>?_⟩⟩;rw [h'] at h;simpa [h2.fl] using h
theorem Amj {l:List RowT} {vars:List ByteArray} (hl:l.length<=13) (hr:∀ r ∈ l,G5 vars r/\Hg 1000000000000 r) {K:Nat} (hK:kMax vars l<=K) :
  ∃ a,askN K l vars=some a/\a.least=none/\(Ag3 QQ.qF okS vars l a\/Ag3 WW.qF gW vars l a):=by
 have bl:∀ r ∈ l,G5 vars r:=fun r h=>(hr r h).1;obtain ⟨a,ok,h1,h2,h3,h4⟩:=Vy Aep bl (.inl rfl) Aqs hK;unfold askN;rw [h1];cases ok with
 | true=>exact ⟨a,rfl,h2,.inl (h4 rfl)⟩
 | false =>
  obtain ⟨s1,s2⟩:=Ak1 hl hr;obtain ⟨a',ok',k1,k2,k3,k4⟩:=Vy Q0 bl (.inr s1) s2 hK;simp only [k1,C3];exact ⟨a',rfl,k2,.inr (k4 (k3 rfl))⟩
theorem Amg {l:List RowT} {vars:List ByteArray} (hr:∀ r ∈ l,G5 vars r) {a:Ans} (h:Ag3 QQ.qF okS vars l a\/Ag3 WW.qF gW vars l a):a.f=true↔∃ v,Sat v l:=by
 rcases h with ⟨t',h1,h2,-⟩|⟨t',h1,h2,-⟩
 ·rw [h2]; exact h1.feas Aep hr
 ·rw [h2]; exact h1.feas Q0 hr
end
section
open Go
end
section
open Go
end
section
open Go
def flipB (r:RowT):Bool:=decide (sgI r<0)
structure RightL (l:List RowT) (vars:List ByteArray):Prop where
 hm:l.length<=1000
 hv:vars.length<=1000
 hcl:∀ r ∈ l,r.1.length<=1048576
 hc:∀ r ∈ l,∀ c ∈ r.1,inB c.2=true
 hn:∀ r ∈ l,inB r.2.1=true
structure RowsI (S:List Ent) (k:Nat) (l:List RowT) (vars:List ByteArray) (SS:List Ent) (tk1:List Nat) (cc:Cap) (q:Nat) (I:TI):Prop where
 hq:q<=l.length
 P:PTab SS I (Aor vars l.length 0 (l.take q)) ((De q).map (2*vars.length+l.length+·)) ((l.take q).map flipB) vars l.length (2*vars.length+l.length+l.length+1) cc (.frz [] .nilc)
 it:I.it=S.length
 et:I.et=k
 ir:I.ir=S.length+4
 ib:I.ib=S.length+5
 len:SS.length=S.length+1+(if q=0 then 0 else 3*q+2)
 cap:Bd tk1 cc 1=true
 fr:∀ j,j<S.length->nth SS j=nth S j
 ge:∀ p ∈ I.ids,S.length<=p.1
section
variable {S S':List Ent} {I:TI} {R:List (List Q)} {B:List Nat} {F:List Bool} {vars:List ByteArray} {m W:Nat} {cc:Cap} {x:AV}
theorem PTab.frame (h:PTab S I R B F vars m W cc x) {L:Nat} (h1:I.it<L/\I.ir<L/\I.ib<L/\∀ p ∈ I.ids,p.1<L) (hl:L<=S'.length) (hS:∀ j,j<L->nth S' j=nth S j):PTab S' I R B F vars m W cc x :=
 ⟨by rw [Aa (hS _ h1.1)]; exact h.top,h.nids,h.nb,fun e=>by rw [Aa (hS _ h1.2.1)]; exact h.rowsE e,fun e=>by rw [Aa (hS _ h1.2.2.1)]; exact h.basisE e,fun i p r hp hr=>by rw [Aa (hS _ (h1.2.2.2 p (Am hp)))]; exact h.rowE i p r hp hr,h.rowW,h.okr,h.tr,h.tb,h.rb,h.row,⟨aA,fun p hp=>by have:=h1.2.2.2 p hp; omega⟩,h.rows⟩
end
theorem Afa {l:List RowT} : ∀ r ∈ l,∀ c ∈ r.1,c.1 ∈ B4 l:=fun r hr c hc=>by
 refine ((Ju (Ed l)).2.1 c.1).2 ?_;unfold Ed;refine fN.2 ⟨r.1.map (·.1),F9.2 ⟨r,hr,rfl⟩,F9.2 ⟨c,hc,rfl⟩⟩
end
section
open Go
end
section
open Go
end
section
open Go
end
section
open Go Tryz
section
variable (S:List Ent) (tk:List Nat) (k:Nat)
theorem Qh (l:List RowT) (ie:∀ r ∈ l,r.1.length<=1048576) (hi:∀ r ∈ l,i64 r.2.1/\∀ c ∈ r.1,i64 c.2) (K:Nat) (a:Ans) (hS:sysE l=0->askN K l (B4 l)=some a/\a.least=none) :
  cL prog 10 [Ap l] S tk k=some (.tup [.bool (if sysE l=0 then a.f else false),.int (sysE l)],S,tk,k):=by
 have hC:=fun S tk k=>Xz S tk k l ie;by_cases h0:sysE l=0
 ·obtain ⟨h1,h2,h3,-⟩:=M2 h0;have hV:=fun S tk k=>Ey S tk k l h1 h2;obtain ⟨cj,a7⟩:=hS h0;have hA:=fun S tk k=>Aav S tk k l aA aA (B4 l) aA Afa hi h1 K a cj a7;have c1:(sysE l != 0)=false:=aX
  simp only [ansC,lsC,ceW,Ap,Ar,Cr,Cw] at hA;simp only [Ap,Ar] at hC hV;refine opP func10 ntmps10 (hp3:=rfl) ?_;simp (maxSteps:=10^6)+contextual(disch:=try exact dqd)only[ev1,simprocAttr,Cd,Cb,Ce,results10,Ap,Ar,hC,hV,hA,c1,h0];try (intro h; exact absurd h aH)
 ·simp only [Ap] at hC;have c1:(sysE l != 0)=true:=aX
  refine opP func10 ntmps10 (hp3:=rfl) ?_;simp (maxSteps:=10^6)+contextual(disch:=try exact dqd)only[ev1,simprocAttr,Cd,Cb,Ce,results10,Ap,hC,c1,h0]
end
theorem Ap1 {l:List RowT} (hl:l.length<=13) (h0:sysE l=0):∃ b:Bool,(b=true↔∃ v,Sat v l)/\∀ S tk k,cL prog 10 [Ap l] S tk k=some (.tup [.bool b,.int 0],S,tk,k):=by
 obtain ⟨f1,f2,f3,f4⟩:=M2 h0;have hr:=Ago (vars:=B4 l) f4 Afa;obtain ⟨a,h1,h2,h3⟩:=Amj hl hr (Cc _);refine ⟨a.f,Amg (fun r h=>(hr r h).1) h3,fun S tk k=>?_⟩;have:=Qh S tk k l (fun r h=>by have:=Y5 (Ry f4 r h); omega) (Adz f4) _ a (fun _=>⟨h1,h2⟩);rw [h0,if_pos rfl] at this;exact this
end
section
open Go Tryz Go.RowKit
theorem Y9:∀ {a b:List (ByteArray × Int)},a.map Bi=b.map Bi->a=b
 | [],[],_=>rfl
 | [],_ :: _,h=>aN
 | _ :: _,[],h=>aN
 | x :: a,y :: b,h=>by
  simp only [Cp,I6,Bi,AV.prim.injEq,Value.string.injEq,Sl.injEq,and_true,true_and] at h;rw [Y9 h.2,Prod.ext h.1.1 h.1.2]
theorem Aez:∀ {a b:List RowT},a.map rowC=b.map rowC->a=b
 | [],[],_=>rfl
 | [],_ :: _,h=>aN
 | _ :: _,[],h=>aN
 | x :: a,y :: b,h=>by
  simp only [Cp,I6,rowC,Ag,AV.frz.injEq,AV.prim.injEq,Value.bool.injEq,Sl.injEq,and_true,true_and] at h;rw [Aez h.2,Prod.ext (Y9 h.1.1) (Prod.ext h.1.2.1 h.1.2.2)]
def fndA (l:List RowT) (most:Int):AV:=.tup [Ag ((fndF l most).getD []),.prim (.bool (fndF l most).isSome)]
open Classical in
noncomputable def fndC (args:List AV):Option AV:=if h:∃ q:List RowT × Int,args=[Ap q.1,.prim (.int .i64 q.2)] then some (fndA h.choose.1 h.choose.2) else none
theorem Ajc {args:List AV} {r:AV} (h:fndC args=some r):∃ l most,args=[Ap l,.prim (.int .i64 most)]/\r=fndA l most:=by
 unfold fndC at h;split at h
 ·rename_i hp;simp only [A2] at h;exact ⟨_,_,hp.choose_spec,h.symm⟩
 ·simp at h
theorem Ajb (l:List RowT) (most:Int):fndC [Ap l,.prim (.int .i64 most)]=some (fndA l most):=by
 have hx:∃ q:List RowT × Int,[Ap l,AV.prim (.int .i64 most)]=[Ap q.1,.prim (.int .i64 q.2)]:=⟨(l,most),rfl⟩;unfold fndC;rw [dif_pos hx];have h1:=hx.choose_spec;generalize hx.choose=q at h1 ⊢;simp only [Ap,I6,AV.frz.injEq,AV.prim.injEq,Sl.injEq,and_true,true_and] at h1;rw [<- Aez h1.1,<- h1.2]
noncomputable def fndX (f:FuncId) (args:List AV) (S:List Ent) (tk:List Nat) (n:Nat):Option (AV × List Ent × List Nat × Nat) :=
 if f == 7 then (fndC (args.map w2)).map fun r=>(r,S,tk,n) else @Ext.call prog E1 f args S tk n
@[reducible] noncomputable def E2:Ext prog where
 on:=fun f=>f == 48 || f == 174 || f == 7
 mv:=mvF0
 call:=fndX
theorem Afu {args:List AV} {S:List Ent} {tk:List Nat} {n:Nat} : @Ext.call prog E1 7 args S tk n=none:=by simp [Ext.call]
theorem E1_le:CLe (@Ext.call prog E1) (@Ext.call prog E2):=by
 intro f args S tk n r h;show fndX _ _ _ _ _=some r;unfold fndX;split
 ·rename_i hf;have hf:f=7:=cZ
  subst hf;rw [Afu] at h; cases h
 ·exact h
theorem told2 {f:FuncId} {args:List AV} {S:List Ent} {tk:List Nat} {n:Nat} {r:AV × List Ent × List Nat × Nat} (h:@cL _ prog E1 f args S tk n=some r):@cL _ prog E2 f args S tk n=some r:=An6 (E:=E2) E1_le h
theorem Arc {C:Cx} {vs:Array Value} (hs:SR C) (l:List RowT) (most:Int) (hv:VRs C [Ap l,.prim (.int .i64 most)] vs.toList) :
  Calls prog 7 vs C.w fun e w'=>∃ v C',e=.returned v/\C'.w=w'/\Le C C'/\SR C'/\C'.S=C.S/\C'.tk=C.tk/\C'.n=C.n/\VR C' (fndA l most) v:=by
 obtain ⟨vl⟩:=vs;match vl,hv with
 | [x,y],hv =>
 simp only [VRs,VR,Ap,and_true] at hv;obtain ⟨⟨a,len,cap,rfl,h1,h2,-,h4⟩,rfl⟩:=hv;rw [Fq] at h1;subst h1;have hA:Hq C.Avoid C.w:=fun b o h=>by
  rcases h with h|h
  ·exact hs.avlt b o h
  ·exact Aed hs h
 have lq:VR (Cq C.Avoid C.w) (Ap l) (.slice a l.length cap):=by
  simp only [Ap,VR];refine ⟨_,_,_,rfl,by simp,h2,trivial,h4.imp id ?_⟩;rintro ⟨b,o,sz,rfl,hr⟩;exact ⟨b,o,sz,rfl,Bf.stays (A':=(Cq C.Avoid C.w).Avoid) (fun _ _ _ hv ha=>⟨hv,M5 ha⟩) _ _ _ _ hr⟩
 refine (callsIn_wide.1 (Ap5 l most C.w a cap hA lq)).mono ?_;rintro e w' ⟨v,rfl,hp,hb⟩;refine ⟨_,C.at w',rfl,rfl,Le.of_below hb,SR.of_below hs hb,rfl,rfl,rfl,?_⟩;simp only [fndA,VR];refine ⟨_,rfl,?_⟩;simp only [VRs,VR,and_true];simp only [Ag,VR] at hp ⊢;obtain ⟨a',len,cap',rfl,g1,g2,-,g4⟩:=hp;refine ⟨a',len,cap',rfl,g1,g2,trivial,g4.imp id ?_⟩;rintro ⟨b,o,sz,rfl,hr⟩;refine ⟨b,o,sz,rfl,Bf.stays (A':=(C.at w').Avoid) (fun b' o' _ hv ha=>⟨hv,fun h=>Ao3 ha ?_⟩) _ _ _ _ hr⟩;exact h
theorem Zl {f:FuncId} {args:List AV} {S:List Ent} {tk:List Nat} {n:Nat} {r:AV} {S':List Ent} {tk':List Nat} {n':Nat} (h:@extC prog E2 f args S tk n=some (r,S',tk',n')) :
  (f=7/\S'=S/\tk'=tk/\n'=n/\∃ l most,args.map w2=[Ap l,.prim (.int .i64 most)]/\r=fndA l most)\/((f == 7)=false/\@extC prog E1 f args S tk n=some (r,S',tk',n')):=by
 unfold extC at h;split at h
 ·rename_i mg;change fndX f args S tk n=_ at h;unfold fndX at h;split at h
  ·rename_i hf;simp only [Ca,Cg] at h;obtain ⟨x,hx,rfl,rfl,rfl,rfl⟩:=h;exact .inl ⟨cZ,rfl,rfl,rfl,Ajc hx⟩
  ·rename_i hf;refine .inr ⟨cZ,?_⟩;unfold extC;exact (if_pos (show @Ext.on prog E1 f=true from mg)).trans h
 ·simp at h
theorem Ai2 {args:List AV} {l:List RowT} {most:Int} (ha:args.map w2=[Ap l,.prim (.int .i64 most)]) (S:List Ent) (tk:List Nat) (n:Nat):@extC prog E2 7 args S tk n=some (fndA l most,S,tk,n):=by
 show (if _ then fndX _ _ _ _ _ else none)=_;simp [Ext.on,fndX,ha,Ajb]
theorem Ady {f:FuncId} (hf:(f == 7)=false) {args:List AV} {S:List Ent} {tk:List Nat} {n:Nat} : @extC prog E2 f args S tk n=@extC prog E1 f args S tk n:=by
 show (if _ then fndX _ _ _ _ _ else none)=(if _ then _ else none);unfold fndX;rw [hf];rfl
theorem ext_mv2 (f:FuncId) (h:mvF0 f=false):@Ext.mv prog E2 f=false:=h
@[reducible] noncomputable instance E2i:Ext prog:=E2
instance ok2:Aa7 prog:={
 ok:=fun f args S tk n r S' tk' n' h=>by
  rcases Zl h with ⟨rfl,rfl,rfl,rfl,l,most,ha,rfl⟩|⟨hf,hh⟩
  ·refine ⟨⟨_,func7,aO,aO⟩,fun C vs h1 h2 h3 hs hv=>?_⟩;subst h1 h2 h3;exact Arc hs l most (by rw [<- ha]; exact Ac8 hv)
  ·exact ok1.ok f args S tk n r S' tk' n' hh
 indep:=fun M f args S tk n r S' tk' n' h=>by
  unfold Eg at h;split at h
  ·rename_i hp;rcases Zl h with ⟨rfl,rfl,rfl,rfl,l,most,ha,rfl⟩|⟨hf,hh⟩
   ·refine ⟨rfl,rfl,.inr ⟨rfl,fun S2 tk2 n2=>?_⟩⟩;unfold Eg;rw [if_pos hp];exact Ai2 ha S2 tk2 n2
   ·rcases Rp hh with ⟨rfl,hh⟩|⟨rfl,hh⟩
    ·obtain ⟨l,c,rfl,hlen,hc,rfl,rfl,rfl,rfl⟩:=X8 hh;refine ⟨rfl,rfl,.inr ⟨rfl,fun S2 tk2 n2=>?_⟩⟩;unfold Eg;rw [if_pos hp,Ady hf,Adx];exact Alh hlen hc S2 tk2 n2
    ·obtain ⟨l,y,c,d,rfl,hq,rfl,rfl,rfl⟩:=Xr hh;refine ⟨rfl,rfl,.inr ⟨rfl,fun S2 tk2 n2=>?_⟩⟩;unfold Eg;rw [if_pos hp,Ady hf,Adw];exact Aoz hq S2 tk2 n2
  ·simp at h }
set_option linter.defProp false in
def ev2:=Bu ext_mv2 ev0
section
variable (S:List Ent) (tk:List Nat) (k:Nat)
theorem J8 (l:List RowT) (c:Cap) (most:Int):cL prog 7 [.frz (l.map rowC) c,.int most] S tk k=some (fndA l most,S,tk,k):=by
 refine Wi rfl ?_;show fndX _ _ _ _ _=_;have h:[AV.frz (l.map rowC) c,Cd most].map w2=[Ap l,.prim (.int .i64 most)]:=rfl;simp [fndX,h,Ajb]
end
end
section
open Go Tryz
set_option maxHeartbeats 2000000
set_option maxRecDepth 100000
theorem vals2:(Hc 2).map intC=[[.prim (.int .i64 0)],[.prim (.int .i64 1)],[.prim (.int .i64 (-1))],[.prim (.int .i64 2)],[.prim (.int .i64 (-2))]]:=rfl
def rw1:List RowT:=[([(nX,1)],-3,false),([(nX,-1)],2,false)]
def rw2:List RowT:=[([(nX,2)],-1,true)]
theorem fnd1:fndF rw1 4=some [(nX,2)]:=aO
theorem fnd2:fndF rw2 4=none:=aO
theorem fnd3:fndF [] 0=some []:=aO
def pxy (x y:Int):Pt:=[(nX,x),(nY,y)]
theorem ord1:ordF (pxy 1 0) (pxy 1 1)=-1:=aO
theorem ord2:ordF (pxy (-1) 0) (pxy 1 1)=1:=aO
theorem ord3:ordF (pxy 2 0) (pxy (-1) 0)=1:=aO
theorem ord4:ordF (pxy 1 0) [(nX,1)]=0:=aO
theorem sat1:satF [([(nX,1),(nY,1)],-3,false)] (pxy 1 2)=true:=aO
theorem sat2:satF [([(nX,1),(nY,1)],-3,true)] (pxy 1 1)=false:=aO
theorem Aca {x y:Int} (hx:i64 x) (hy:i64 y):PtI (pxy x y):=by
 intro c hc;simp only [pxy,Cn,Ol,or_false] at hc;rcases hc with rfl|rfl <;> assumption
theorem x_i {x:Int} (hx:i64 x):PtI [(nX,x)]:=by
 intro c hc;simp only [Cn,Ol,or_false] at hc;subst hc; exact hx
section
variable {S:List Ent} {tk:List Nat} {k:Nat} {A B:List (List AV)}
theorem ord_t:cL prog 18 [.frz A .unk,.frz B .tight] S tk k=cL prog 18 [.frz A .unk,.frz B .unk] S tk k:=Apm rfl rfl rfl
theorem sat_t:cL prog 20 [.frz A .tight,.frz B .unk] S tk k=cL prog 20 [.frz A .unk,.frz B .unk] S tk k:=Apm rfl rfl rfl
end
section
variable (S:List Ent) (tk:List Nat) (k:Nat)
theorem Ag6:cL prog 6 [] S tk k=some (.bool true,S,tk,k):=by
 have i0:i64 0:=by simp [i64]
 have i1:i64 1:=by simp [i64]
 have i2:i64 2:=by simp [i64]
 have i3:i64 (-1):=by simp [i64]
 have g9:=fun S tk k=>told2 (V2 S tk k 1 (-3) false rfl);have eh:=fun S tk k=>told2 (V2 S tk k (-1) 2 false rfl);have gd:=fun S tk k=>told2 (V2 S tk k 2 (-1) true rfl);have wu:=fun S tk k=>told2 (Acx S tk k 1 1 (-3) false rfl rfl);have jw:=fun S tk k=>told2 (Acx S tk k 1 1 (-3) true rfl rfl);have hF1:∀ S tk k,cL prog 7 [.frz [rowC ([(nX,1)],-3,false),rowC ([(nX,-1)],2,false)] .tight,.int 4] S tk k=some (.tup [.frz [[.prim (.string ⟨#[120]⟩),.prim (.int .i64 2)]] .unk,.bool true],S,tk,k):=fun S tk k=>by
  have:=J8 S tk k rw1 .tight 4;rw [fndA,fnd1] at this; exact this
 have hF2:∀ S tk k,cL prog 7 [.frz [rowC ([(nX,2)],-1,true)] .tight,.int 4] S tk k=some (.tup [.frz [] .unk,.bool false],S,tk,k):=fun S tk k=>by
  have:=J8 S tk k rw2 .tight 4;rw [fndA,fnd2] at this; exact this
 have hF3:∀ S tk k,cL prog 7 [.frz [] .nilc,.int 0] S tk k=some (.tup [.frz [] .unk,.bool true],S,tk,k):=fun S tk k=>by
  have:=J8 S tk k [] .nilc 0;rw [fndA,fnd3] at this; exact this
 have hV:=fun S tk k=>told2 (Nu S tk k 2);rw [vals2] at hV;have hA1:∀ S tk k,cL prog 19 [.int 1,.int 0] S tk k=some (Ag (pxy 1 0),S,tk,k):=fun S tk k=>told2 (Yf S tk k 1 0);have hA2:∀ S tk k,cL prog 19 [.int 1,.int 1] S tk k=some (Ag (pxy 1 1),S,tk,k):=fun S tk k=>told2 (Yf S tk k 1 1);have hA3:∀ S tk k,cL prog 19 [.int (-1),.int 0] S tk k=some (Ag (pxy (-1) 0),S,tk,k):=fun S tk k=>told2 (Yf S tk k (-1) 0);have hA4:∀ S tk k,cL prog 19 [.int 2,.int 0] S tk k=some (Ag (pxy 2 0),S,tk,k):=fun S tk k=>told2 (Yf S tk k 2 0);have hA5:∀ S tk k,cL prog 19 [.int 1,.int 2] S tk k=some (Ag (pxy 1 2),S,tk,k):=fun S tk k=>told2 (Yf S tk k 1 2);have hO1:=fun S tk k=>told2 (H9 S tk k (pxy 1 0) (pxy 1 1) aH aH (Aca i1 i0) (Aca i1 i1));have hO2:=fun S tk k=>told2 (H9 S tk k (pxy (-1) 0) (pxy 1 1) aH aH (Aca i3 i0) (Aca i1 i1));have po:=fun S tk k=>told2 (H9 S tk k (pxy 2 0) (pxy (-1) 0) aH aH (Aca i2 i0) (Aca i3 i0));have hO4:∀ S tk k,cL prog 18 [Ag (pxy 1 0),.frz [[.prim (.string ⟨#[120]⟩),.prim (.int .i64 1)]] .unk] S tk k=some (.int (ordF (pxy 1 0) [(nX,1)]),S,tk,k):=fun S tk k=>told2 (H9 S tk k (pxy 1 0) [(nX,1)] aH aH (Aca i1 i0) (x_i i1));have cj:∀ S tk k,cL prog 20 [.frz [rowC ([(nX,1),(nY,1)],-3,false)] .unk,Ag (pxy 1 2)] S tk k=some (.bool (satF [([(nX,1),(nY,1)],-3,false)] (pxy 1 2)),S,tk,k):=fun S tk k=>told2 (Hf S tk k [([(nX,1),(nY,1)],-3,false)] (pxy 1 2) aH Za0n aH);have a7:∀ S tk k,cL prog 20 [.frz [rowC ([(nX,1),(nY,1)],-3,true)] .unk,Ag (pxy 1 1)] S tk k=some (.bool (satF [([(nX,1),(nY,1)],-3,true)] (pxy 1 1)),S,tk,k):=fun S tk k=>told2 (Hf S tk k [([(nX,1),(nY,1)],-3,true)] (pxy 1 1) aH Za0n aH);rw [ord1] at hO1;rw [ord2] at hO2;rw [ord3] at po;rw [ord4] at hO4;rw [sat1] at cj;rw [sat2] at a7;generalize pxy 1 0=p10 at *;generalize pxy 1 1=p11 at *;generalize pxy (-1) 0=pm10 at *;generalize pxy 2 0=p20 at *;generalize pxy 1 2=p12 at *;generalize ([(nX,(1:Int))],(-3:Int),false)=r1 at *;generalize ([(nX,(-1:Int))],(2:Int),false)=r2 at *;generalize ([(nX,(2:Int))],(-1:Int),true)=r3 at *;generalize ([(nX,(1:Int)),(nY,(1:Int))],(-3:Int),false)=r4 at *;generalize ([(nX,(1:Int)),(nY,(1:Int))],(-3:Int),true)=r5 at *;simp only [rowC,Ag] at *;have n1:(((1:Nat):Int) == 1)=true:=rfl;have n0:(((0:Nat):Int) == 0)=true:=rfl;have n5:(((5:Nat):Int) == 5)=true:=rfl;have q1:intN (AV.prim (.int .i64 1))=some 1:=rfl;have q2:intN (AV.prim (.int .i64 2))=some 2:=rfl;have q4:intN (AV.prim (.int .i64 4))=some 4:=rfl;have qs:sEq ⟨#[120]⟩ ⟨#[120]⟩=true:=aO
 refine opP func6 ntmps6 (hp3:=rfl) ?_; simp only [List.append_eq,Cr,Cw];simp (maxSteps:=10^6)+contextual(disch:=try exact dqd)only[ev2,simprocAttr,Cd,Cb,Ce,results6,g9,eh,gd,wu,jw,hF1,hF2,hF3,hV,hA1,hA2,hA3,hA4,hA5,hO1,hO2,po,hO4,cj,a7,ord_t,sat_t,n1,n0,n5,q1,q2,q4,qs];skip
end
end
section
open Go
theorem Af1 {l:List RowT} (h:Mf l=true):l.length<=8/\∀ r ∈ l,r.1.length<=8:=by
 unfold Mf at h;simp only [Ch,decide_eq_true_eq,Cv] at h;exact h
theorem Acc {l:List RowT} {most:Int} (h:Aap l most=true):Mf l=true:=by
 unfold Aap at h;rw [Ch] at h; exact h.1
theorem Ap8 {l:List RowT} {most:Int} {p:Pt} (h:fndF l most=some p):p.length<=6:=by
 obtain ⟨h1,-,h3,-⟩:=Zo h;obtain ⟨-,-,-,h6⟩:=Xk h1;have:=(W9.1 h3).1;rw [<- this,Fq] at h6; exact h6
end
end Go.Proofs.YtcandeobhlfkbaaGreat
