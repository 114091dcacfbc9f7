/- Part 25. -/
import Derived.Test.YtcjffhadclngmaaGreatZC24
open And renaming intro->Bu
open Bool renaming and_eq_true->Ci,or->Cj,or_false->Fk,or_assoc->Fo,false_and->Fq,true_and->F0,false_ne_true->F6,not_false->Oe,false_or->Oi,not_true->Oj,and_false->kV
open Go.IntKind renaming i64->Ca
open Go.Proofs.YtcjffhadclngmaaGreat.AV renaming bool->Bg,int->Cb,str->Cc
open Int renaming tdiv_eq_ediv_of_nonneg->Fe,tmod_eq_emod_of_nonneg->Ic,natAbs_mul->Ii,mul_ne_zero->Il,neg_mul->iD
open List renaming replicate->Cf,length_cons->Ch,length_append->Cm,cons_append->Cn,length_nil->Co,mem_cons_of_mem->Cp,nil_append->Cq,mem_cons_self->Cs,map_cons->Ct,getElem?_eq_none->Cu,mem_cons->Cv,getElem?_map->Cw,drop_eq_nil_of_le->Cy,range->Cz,getElem?_append_left->C3,length_eq_zero_iff->C4,mem_append->C5,take_of_length_le->C6,map_nil->Ei,append_assoc->Fa,all_eq_true->Fb,getElem?_append_right->Fc,drop_zero->Fg,length_map->Fj,take_length->Fm,mem_map->Ft,mem_singleton->Fu,getElem?_eq_some_iff->Fx,append_nil->Fy,map_append->F4,take_succ_cons->F7,length_pos_iff->F8,take->Ib,pairwise_cons->Ie,length_take->Iu,mem_replicate->Ix,length_replicate->I1,drop->I7,getElem?_cons_zero->Oc,singleton_append->O2,length_singleton->O3,take_add_one->V7,mem_range->Zk,map_map->jE,lt_irrefl->jH,length_range->jJ,replicate_succ'->kB,getElem?_of_mem->kG,range_succ->kM
open Nat renaming le_refl->Ce,zero_le->Cl,mul_one->C9,zero_add->El,le_trans->Fs,mul_le_mul_right->F2,le_add_right->Ia,mul_le_mul->Iv,gcd_pos_of_pos_right->Iy,add_zero->I5,succ_mul->Oa,gcd_zero_right->Og,add_sub_cancel->Oh,sub_self->Ol,le_of_not_lt->O9,mod_lt->Si,add_assoc->Sr,mod_two_eq_zero_or_one->iF,eq_zero_or_pos->jA,gcd_comm->jM
open Ne renaming symm->Ih
open Option renaming map_some->C8,bind_some->Ou
open Option.some renaming injEq->A8
open Prod.mk renaming injEq->Cg
open Rat renaming intCast_mul->C7,intCast_neg->K9,intCast_pos->Oz,le_refl->Sw,intCast_sub->Tm,intCast_one->kL
namespace Go.Proofs.YtcjffhadclngmaaGreat
section
open Go Go.Proofs.Tryz
open Go.Proofs.Tryz renaming f87->ga35,results87->ga36
open Go.Proofs.YtcjffhadclngmaaGreat renaming ceW->ga0,Al->ga1,puW->ga5,An->ga6,Bi->ga8,tkW->ga9
set_option maxRecDepth 100000
namespace WW
abbrev ua14:Nat:=72
end WW
set_option maxHeartbeats 20000000
set_option maxRecDepth 100000
section
variable (S:List Ent) (l:List RowT) (vars:List ByteArray) (fl:Bool) (k iq eq c W nz:Nat) (z:Q)
namespace WW
theorem Au3:Aw22:=Ma22
end WW
end
end
section
open Go Go.Proofs.Tryz
open Go.Proofs.Tryz renaming f87->ga35,results87->ga36
open Go.Proofs.YtcjffhadclngmaaGreat renaming ceW->ga0,Al->ga1,puW->ga5,An->ga6,Bi->ga8,tkW->ga9
set_option maxRecDepth 100000
set_option maxHeartbeats 20000000
set_option maxRecDepth 100000
section
variable (S:List Ent) (l:List RowT) (vars:List ByteArray) (fl:Bool) (k iq eq c W nz:Nat) (z:Q)
namespace WW
theorem Au5:Aw23:=Ma23
end WW
end
end
section
open Go Go.Proofs.Tryz
open Go.Proofs.Tryz renaming f87->ga35,results87->ga36,func87->ga37,ntmps87->ga38
open Go.Proofs.YtcjffhadclngmaaGreat renaming ceW->ga0,Al->ga1,puW->ga5,An->ga6,ovW->ga7,Bi->ga8,tkW->ga9
set_option maxRecDepth 100000
namespace WW
abbrev ua15:Nat:=87
end WW
set_option maxHeartbeats 20000000
set_option maxRecDepth 100000
namespace WW
def Pn (iq eq:Nat) (n real:Nat) (rows cost basis flip:AV):List AV:=[.ifc 100 (rcvQ iq eq),.int (n:Nat),.int (real:Nat),rows,cost,basis,flip]
theorem mk_Q {W:Nat} (h:W<=1048576):mkA prog 54 (.int (W:Nat)) (.int (W:Nat))=some (W,4,(Cf W zeroQ).flatten):=by
 have hz:(Be prog 54).bind (A3 prog)=some zeroQ:=bA
 have hs:(Be prog 54).bind (szOf prog)=some 4:=bA
 obtain ⟨bb,hb,hbl⟩:∃ bb,(Be prog 54).bind (Ja prog)=some bb/\bb<=1048576:=⟨64,aI,aA⟩;exact Ya2m
def Aos (S:List Ent) (iq eq:Nat) (t':Tb) (r:Rs):Prop :=
 ∃ S' k' tk' I cc,r=(.ref I.it I.et 0,S',tk',k')/\S.length<=S'.length/\A7 S' iq eq I t' cc/\(∀ j,j<S.length->j≠iq->nth S' j=nth S j)/\(∀ j,j<S.length->j≠iq->OutQ I iq j)
end WW
section
variable (S:List Ent) (tk:List Nat) (k iq eq:Nat)
namespace WW
theorem Arp:Aw24:=Ma24
end WW
end
end
section
open Go Go.Proofs.Tryz
open Go.Proofs.Tryz renaming func92->ga39,ntmps92->ga40,results92->ga41
open Go.Proofs.YtcjffhadclngmaaGreat renaming ceW->ga0,Al->ga1,puW->ga5,An->ga6,ovW->ga7,Bi->ga8,tkW->ga9
set_option maxRecDepth 100000
namespace WW
abbrev ua16:Nat:=92
end WW
set_option maxHeartbeats 20000000
set_option maxRecDepth 100000
namespace WW
theorem Xd:Aw25:=fun {t i}=>Ma25
theorem N4:∀ {n i:Nat} {t:Tb},(settleF qF n i t).cost.length=t.cost.length/\(settleF qF n i t).real=t.real/\(settleF qF n i t).vars=t.vars/\(settleF qF n i t).rows.length=t.rows.length
 | 0,_,_=>⟨rfl,rfl,rfl,rfl⟩
 | n+1,i,t=>by
  exact Ya0p
def Asd (S:List Ent) (tk:List Nat) (iq eq:Nat) (I:TI) (cc:Cap) (n:Int) (b:Bool) (t':Tb) (r:Rs):Prop :=
 Ut S tk iq eq I (if b=true then { t' with fl:=Cj t'.fl (Gt qF t' n).2 } else t') cc (.tup [.agg (ceW (if b=true then qF.rat (Gt qF t' n).1 else (0,1))),.bool b]) r
structure Um (S SS:List Ent) (iq eq:Nat) (I:TI) (t:Tb) (cc:Cap) (k n8:Nat) (z:Q) (cf:AV) (n:Int):Prop where
 T:A7 SS iq eq I t cc
 E4:entAt SS S.length k=some [cf,.prim (.int .i64 n)]
 E6:entAt SS (S.length+1) (k+1)=some Aec
 E8:entAt SS (S.length+2) n8=some (ceW z)
 len:SS.length=S.length+3
 fr:∀ j,j<S.length->OutQ I iq j->nth SS j=nth S j
theorem Afa:Aw26:=fun {S iq eq I t cc}=>Ma26
theorem Um.step:Aw27:=fun {S SS S' iq eq I t t' cc k n8 z cf n}=>Ma27
end WW
section
variable (S:List Ent) (tk:List Nat) (k iq eq:Nat)
namespace WW
theorem Avp:Aw28:=Ma28
end WW
end
end
section
open Go
set_option maxRecDepth 100000
namespace WW
theorem A7.junk:Aw29:=fun {S iq eq I t c}=>Ma29
def BegRQ (S:List Ent) (iq eq:Nat) (t':Tb) (r:Rs):Prop :=
 ∃ S' k' tk' I cc,r=(.ref I.it I.et 0,S',tk',k')/\S.length<=S'.length/\A7 S' iq eq I t' cc/\(∀ j,j<S.length->j≠iq->nth S' j=nth S j)/\(∀ j,j<S.length->j≠iq->OutQ I iq j)/\(I.ib<S'.length\/S'.length+15<I.ib)
theorem Aos.far:Aw30:=fun {S iq eq t' r}=>Ma30
end WW
end
section
open Go Go.Proofs.Tryz
open Go.Proofs.Tryz renaming func59->ga42,ntmps59->ga43,results59->ga44
set_option maxRecDepth 100000
namespace WW
abbrev ua17:Nat:=59
end WW
set_option maxHeartbeats 20000000
set_option maxRecDepth 100000
section
variable (S:List Ent) (tk:List Nat) (k iq eq:Nat)
namespace WW
theorem An2:Aw31:=Ma31
end WW
end
end
section
open Go Go.Proofs.Tryz
set_option maxHeartbeats 4000000
set_option maxRecDepth 100000
def askN (K:Nat) (l:List RowT) (vars:List ByteArray):Option Ans :=
 match H8 QQ.qF K l vars false with
 | none=>none
 | some (a,true)=>some a
 | some (_,false)=>(H8 WW.qF K l vars false).map (·.1)
section
variable (S:List Ent) (tk:List Nat) (k:Nat)
theorem Adk (l:List RowT) (hl:l.length<=1000) (hn:(Bh l).length<=1000) (vars:List ByteArray) (gm:vars.length<=1000) (hv:∀ r ∈ l,∀ c ∈ r.1,c.1 ∈ vars) (hc:∀ r ∈ l,i64 r.2.1/\∀ c ∈ r.1,i64 c.2) (dq:fewC l) (K:Nat) (a:Ans) (hS:askN K l vars=some a) (ha:a.least=none) :
  cL prog 31 [Ar l,Aq vars,.prim (.pointer none)] S tk k=some (.agg (ansC a.f a.pt a.nu .unk .unk (some (0,0)) false),S,tk,k):=by
 unfold askN at hS;cases h1:H8 QQ.qF K l vars false with
 | none=>rw [h1] at hS; simp at hS
 | some p =>
  obtain ⟨a1,ok1⟩:=p;rw [h1] at hS;obtain ⟨r1,dc,S1,tk1,k1,c1,c2,q1,b1,rfl,hl1,bo,jd,fh⟩:=QQ.An2 [(⟨0,ans0⟩:Ent),(⟨1,[.prim (.bool false)]⟩:Ent)] [] 2 1 1 l false hl hn vars gm hv hc dq (by simp) rfl K a1 ok1 h1;simp only [ans0,Ar,Aq] at dc;have hi1:Tv prog 95=false:=aI
  have wu:Tv prog 100=false:=aI
  have hN1:∀ e:Ent,nth (S1++[e]) S1.length=some e:=fun e=>by rw [Ag,Fc (Ce _),Ol]; rfl
  have fc:over [AV.prim (.bool false),.frz [] .nilc,.frz [] .nilc,.prim (.bool false),.frz [] .nilc,.prim (.bool false),.frz [] .nilc,.prim (.bool false)] 0 (ansC a1.f a1.pt a1.nu c1 c2 q1 b1)=some (ansC a1.f a1.pt a1.nu c1 c2 q1 b1):=H6 (by rw [Gm]; rfl);have io:∀ f p n c1 c2 q b,takeN 8 (ansC f p n c1 c2 q b)=some (ansC f p n c1 c2 q b):=fun f p n c1 c2 q b=>by
   exact Ya4c
  have zl:nth S1 0=some ⟨0,ans0⟩:=by rw [bo 0 (by simp) aA]; rfl
  have a1v:S1.length=2:=by rw [hl1]; rfl
  have hN0:∀ e:Ent,nth (S1++[e]) 0=some ⟨0,ans0⟩:=fun e=>by rw [Ax aA]; exact zl
  have hNP:∀ e x:Ent,nth (put (S1++[e]) 0 x) 0=some x:=fun e x=>Bw (by simp);simp only [ans0] at hN0;cases ok1 with
  | true =>
   simp only [A8] at hS;subst hS;exact Ya0d
  | false =>
   cases h2:H8 WW.qF K l vars false with
   | none=>rw [h2] at hS; simp at hS
   | some p =>
    obtain ⟨a2,ok2⟩:=p;rw [h2] at hS;simp only [C8,A8] at hS;subst hS;obtain ⟨r2,hc2,S2,tk2,k2,c3,c4,q2,b2,rfl,hl2,bm,qx,wy⟩:=WW.An2 (S1++[(⟨k1,ansC a1.f a1.pt a1.nu c1 c2 q1 b1⟩:Ent)]) tk1 (k1+1) 1 0 l false hl hn vars gm hv hc dq aD ⟨⟩ K a2 ok2 h2;obtain ⟨rfl,rfl⟩:=wy ha;simp only [Ar,Aq] at hc2;have a58:S2.length=3:=by rw [hl2]; simp [a1v]
    have h20:nth S2 0=some ⟨0,ans0⟩:=by rw [bm 0 (by simp) aA,Ax aA]; exact zl
    have h2N:nth S2 S1.length=some ⟨k1,ansC a1.f a1.pt a1.nu c1 c2 q1 b1⟩:=by rw [bm _ (by simp) aA]; exact hN1 _
    have uo:∀ x:Ent,nth (put S2 S1.length x) S1.length=some x:=fun x=>Bw aA;have a1l:∀ x:Ent,nth (put S2 S1.length x) 0=some ⟨0,ans0⟩:=fun x=>by rw [Ab aA]; exact h20
    have a3o:∀ x y:Ent,nth (put (put S2 S1.length x) 0 y) 0=some y:=fun x y=>Bw bQ;have ja:over (ansC a1.f a1.pt a1.nu c1 c2 q1 b1) 0 (ansC a2.f a2.pt a2.nu c3 c4 none false)=some (ansC a2.f a2.pt a2.nu c3 c4 none false):=H6 (by rw [Gm,Gm]);have u5:over [AV.prim (.bool false),.frz [] .nilc,.frz [] .nilc,.prim (.bool false),.frz [] .nilc,.prim (.bool false),.frz [] .nilc,.prim (.bool false)] 0 (ansC a2.f a2.pt a2.nu c3 c4 none false)=some (ansC a2.f a2.pt a2.nu c3 c4 none false):=H6 (by rw [Gm]; rfl);simp only [ans0] at a1l;have hbl:bldA (some []) (fieldsOf prog 100) []=some (.agg []):=aI
    refine opP func31 ntmps31 (hp3:=rfl) ?_;simp (maxSteps:=10^6)+contextual(disch:=try exact dqd)only[ev1,simprocAttr,Cb,Bg,Cc,results31,Ar,Aq,dc,hi1,wu,ifcA,hN1,fc,Gm,Ky,io,hc2,h2N,uo,a1l,a3o,ja,u5,hbl];rfl
end
end
section
open Go
theorem M0 {vars:List ByteArray} {r:RowT} (h:Bz r.1 r.2.1=0) (hm:∀ c ∈ r.1,c.1 ∈ vars):En vars r/\Et 1000000000000 r:=by
 obtain ⟨h1,h2⟩:=U9 h;have h3:=Abq h;refine ⟨⟨aC,fun c hc=>by have:=(h2 c hc).1; unfold i64; omega,hm,?_⟩,⟨aA,h1,fun c hc=>(h2 c hc).1⟩⟩;have key:∀ (cs:List (ByteArray × Int)),IncC cs->(∀ c ∈ cs,c.1 ∈ vars)->(cs.map fun c=>idxV vars c.1).Pairwise (·≠·):=by
  intro cs;induction cs with
  | nil=>intro _ _; exact List.Pairwise.nil
  | cons c cs ih =>
   intro hi hm;have hp:=Ie.1 (show (c.1 :: cs.map (·.1)).Pairwise (fun a b=>nm a<nm b) from hi);rw [Ct];refine Ie.2 ⟨fun x hx e=>?_,ih hp.2 fun c' h=>hm c' (Cp _ h)⟩;obtain ⟨c',jg,rfl⟩:=Ft.1 hx;have e1:=Vs (hm c (Cs ..));have e2:=Vs (hm c' (Cp _ jg));rw [e,e2] at e1;simp only [A8] at e1;have:=hp.1 c'.1 (Ft.2 ⟨c',jg,rfl⟩);rw [e1] at this;exact jH _ this
 exact key _ h3 hm
theorem Lb {l:List RowT} {vars:List ByteArray} (h:G9 l=0) (hm:∀ r ∈ l,∀ c ∈ r.1,c.1 ∈ vars):∀ r ∈ l,En vars r/\Et 1000000000000 r:=fun r hr=>M0 (Hi h r hr) (hm r hr)
theorem Xv {G:Q->Prop} {vars:List ByteArray} {M:Nat} {l:List RowT} {t:Tb} (hr:∀ r ∈ l,En vars r/\Et M r) (h:BInv G vars (2*vars.length+neqs l) (2*vars.length+neqs l+l.length+1) l t):Ints l.length (2*vars.length+neqs l+l.length) M (l.length*M) (tabV t):=by
 refine ⟨fun i j hi hj=>?_,fun j hj=>?_⟩
 ·obtain ⟨w,e,hw⟩:=Aab (real:=2*vars.length+neqs l) (W:=2*vars.length+neqs l+l.length+1) hr i j;exact ⟨w,by rw [<- e]; exact h.vals i hi j,hw⟩
 ·show ∃ z:Int,qv (at_ q0 t.cost j)=_/\_;rw [h.costs];split
  ·obtain ⟨w,e,hw⟩:=Aal (M:=M) (n:=l.length) (f:=fun i=>rowX vars (2*vars.length+neqs l) (2*vars.length+neqs l+l.length+1) l i j) fun i _=>Aab hr i j;exact ⟨-w,by rw [e,K9],aA⟩
  ·exact ⟨0,rfl,by simp⟩
theorem K0 {m M:Nat} (hm:m<=13) (hM:M=1000000000000):2*(bndX m M (m*M)*bndX m M (m*M))<10000 ^ 200:=by
 subst hM;have:∀ m,m<14->2*(bndX m 1000000000000 (m*1000000000000)*bndX m 1000000000000 (m*1000000000000))<10000 ^ 200:=aV
 exact this m aA
theorem Aca {w:Int} (h:w.natAbs<=14000000000000):Hc ((w:Int):Rat):=by
 refine ⟨w,1,aA,by rw [kL]; grind,?_,?_⟩
 ·have:14000000000000<10000 ^ 200:=aV
  omega
 ·decide +kernel
theorem Adp {l:List RowT} {vars:List ByteArray} (hl:l.length<=13) (hr:∀ r ∈ l,En vars r/\Et 1000000000000 r):(Bj WW.qF l vars false).fl=false/\Safe WW.qF gW l.length (2*vars.length+neqs l+l.length) (2*vars.length+neqs l) (tabV (Bj WW.qF l vars false)):=by
 have hf:=Ain Em H0 (fun w hw=>Aca hw) hr (F2 1000000000000 (show l.length+1<=14 by omega));exact ⟨hf,Aty (M:=1000000000000) (Mc:=l.length*1000000000000) aA (Xv hr (Uy Em (fun r h=>(hr r h).1) hf)) (K0 hl rfl)⟩
structure Aoz (G:Q->Prop) (vars:List ByteArray) (l:List RowT) (t':Tb):Prop where
 fl:t'.fl=false
 ok:TOk G l.length (2*vars.length+neqs l+l.length) t'
 run:∃ K,∃ R:Simp.Run l.length (2*vars.length+neqs l+l.length) (2*vars.length+neqs l) K,R.t K=tabV t' /\
   Agree l.length (2*vars.length+neqs l+l.length) (R.t 0) (Simp.first l.length (2*vars.length+neqs l) (rowX vars (2*vars.length+neqs l) (2*vars.length+neqs l+l.length+1) l) fun i=>rowX vars (2*vars.length+neqs l) (2*vars.length+neqs l+l.length+1) l i (2*vars.length+neqs l+l.length))
 stop:(∀ j,j<2*vars.length+neqs l->0<=(tabV t').c j)\/∃ s,s<2*vars.length+neqs l/\(tabV t').c s<0/\∀ i,i<l.length->(tabV t').T i s<=0
def kMax (vars:List ByteArray) (l:List RowT):Nat:=(2*vars.length+neqs l+l.length) ^ l.length+1
theorem Am9 {F:Fld} {G:Q->Prop} (hE:F.Exact G) {l:List RowT} {vars:List ByteArray} (hr:∀ r ∈ l,En vars r) (hb0:F.stop=true\/(Bj F l vars false).fl=false) (hs:Safe F G l.length (2*vars.length+neqs l+l.length) (2*vars.length+neqs l) (tabV (Bj F l vars false))) {K:Nat} (hK:kMax vars l<=K) :
  ∃ b t',Gp F K (Bj F l vars false)=some (b,t')/\((F.stop=true/\t'.fl=true)\/Aoz G vars l t'):=by
 obtain ⟨b,t',h1,h2⟩:=Abk hE hr hb0 hs hK;refine ⟨b,t',h1,?_⟩;rcases h2 with h2|⟨h3,h4,K',R,-,h5,h6,h7⟩
 ·exact .inl h2
 ·exact .inr ⟨h3,h4,⟨K',R,h5,h6⟩,h7⟩
theorem Aoz.feas {F:Fld} {G:Q->Prop} (hE:F.Exact G) {l:List RowT} {vars:List ByteArray} (hr:∀ r ∈ l,En vars r) {t':Tb} (h:Aoz G vars l t'):Gw t'=true↔∃ v,Sat v l:=by
 obtain ⟨K,R,h1,h2⟩:=h.run;exact X8 hE hr h.ok R h1 h2 h.stop
def Ajt (F:Fld) (G:Q->Prop) (vars:List ByteArray) (l:List RowT) (a:Ans):Prop :=
 ∃ t',Aoz G vars l t'/\a.f=Gw t'/\a.pt=(if Gw t'=true then (Bq F t').1.map F.rat else [])/\a.nu=(if Gw t'=true then [] else (Hd F t').1.map F.rat)/\(F.stop=true->Gw t'=true->(Bq F t').2=false)/\(F.stop=true->Gw t'=false->(Hd F t').2=false)
theorem Yi {F:Fld} {G:Q->Prop} (hE:F.Exact G) {l:List RowT} {vars:List ByteArray} (hr:∀ r ∈ l,En vars r) (hb0:F.stop=true\/(Bj F l vars false).fl=false) (hs:Safe F G l.length (2*vars.length+neqs l+l.length) (2*vars.length+neqs l) (tabV (Bj F l vars false))) {K:Nat} (hK:kMax vars l<=K) :
  ∃ a ok,H8 F K l vars false=some (a,ok)/\a.least=none/\(F.stop=false->ok=true)/\(ok=true->Ajt F G vars l a):=by
 obtain ⟨b,t',h1,h2⟩:=Am9 hE hr hb0 hs hK;unfold H8;rw [h1];simp only;rcases h2 with ⟨s1,s2⟩|h2
 ·rw [if_pos (by rw [s1,s2]; rfl)];exact ⟨_,_,rfl,rfl,fun h=>(by rw [s1] at h; cases h),fun h=>aR⟩
 ·rw [if_neg (by rw [h2.fl]; simp)];cases hf:Gw t' with
  | true =>
   rw [if_pos rfl];refine ⟨_,_,rfl,rfl,fun h=>eK,fun h=>⟨t',h2,hf.symm,by rw [if_pos hf],by rw [if_pos hf],fun h' _=>?_,fun _ h'=>(by rw [hf] at h'; cases h')⟩⟩;rw [h'] at h;simpa [h2.fl] using h
  | false =>
   rw [if_neg (by simp)];refine ⟨_,_,rfl,rfl,fun h=>eK,fun h=>⟨t',h2,hf.symm,by rw [hf]; rfl,by rw [hf]; rfl,fun _ h'=>(by rw [hf] at h'; cases h'),fun h' _=>?_⟩⟩;rw [h'] at h;simpa [h2.fl] using h
theorem Apr {l:List RowT} {vars:List ByteArray} (hl:l.length<=13) (hr:∀ r ∈ l,En vars r/\Et 1000000000000 r) {K:Nat} (hK:kMax vars l<=K) :
  ∃ a,askN K l vars=some a/\a.least=none/\(Ajt QQ.qF okS vars l a\/Ajt WW.qF gW vars l a):=by
 have bz:∀ r ∈ l,En vars r:=fun r h=>(hr r h).1;obtain ⟨a,ok,h1,h2,h3,h4⟩:=Yi Z5 bz (.inl rfl) Atx hK;unfold askN;rw [h1];cases ok with
 | true=>exact ⟨a,rfl,h2,.inl (h4 rfl)⟩
 | false =>
  obtain ⟨s1,s2⟩:=Adp hl hr;obtain ⟨a',ok',k1,k2,k3,k4⟩:=Yi Em bz (.inr s1) s2 hK;simp only [k1,C8];exact ⟨a',rfl,k2,.inr (k4 (k3 rfl))⟩
theorem Apn {l:List RowT} {vars:List ByteArray} (hr:∀ r ∈ l,En vars r) {a:Ans} (h:Ajt QQ.qF okS vars l a\/Ajt WW.qF gW vars l a):a.f=true↔∃ v,Sat v l:=by
 rcases h with ⟨t',h1,h2,-⟩|⟨t',h1,h2,-⟩
 ·rw [h2]; exact h1.feas Z5 hr
 ·rw [h2]; exact h1.feas Em hr
section
variable {F:Fld} {G:Q->Prop} {fit:Rat->Prop} {m N L:Nat} {t0:Simp.Tab}
theorem Am2 (hE:F.Exact G) {row:List Q} (hg:∀ q ∈ row,G q):∀ {n k:Nat},k+n<=row.length->match nzF row n k with
  | none=>∀ j,k<=j->j<k+n->qv (at_ q0 row j)=0
  | some c=>k<=c/\c<k+n/\qv (at_ q0 row c)≠0
 | 0,k,_=>fun j h1 h2=>aA
 | n+1,k,hn=>by
  have gk:=hg _ (Dy (d:=q0) (k:=k) (l:=row) aA);have hs:=Lu (hE.pos _ gk);unfold nzF;by_cases c1:sgn (at_ q0 row k)=0
  ·rw [if_pos c1];have ih:=Am2 hE hg (n:=n) (k:=k+1) aA;cases hz:nzF row n (k+1) with
   | none =>
    rw [hz] at ih;intro j h1 h2;by_cases e:j=k
    ·subst e; exact hs.1 c1
    ·exact ih j aA aA
   | some c =>
    rw [hz] at ih;exact ⟨aA,aA,ih.2.2⟩
  ·rw [if_neg c1];exact ⟨Ce _,aA,fun h=>c1 (hs.2 h)⟩
def Uv (F:Fld) (G:Q->Prop) (m N:Nat) (t0:Simp.Tab):Prop :=
 F.stop=true\/∃ fit,F.Total G fit/\∀ t,Reach m N t0 t->(∀ c,c<N->Ji fit m N c t)/\∀ r s,r<m->s<N->t.T r s≠0->Td fit m N t r s
theorem Ah2:Uv QQ.qF okS m N t0:=.inl rfl
theorem Ah3 {M Mc:Nat} (hM:1<=M) (hI:Ints m N M Mc t0) (hX:2*(bndX m M Mc*bndX m M Mc)<10000 ^ 200):Uv WW.qF gW m N t0 :=
 .inr ⟨Hc,H0,fun _ hr=>⟨fun _ hc=>Hm hM hI hX hr hc,fun _ _ h1 h2 h3=>Jm hM hI hX hr h1 h2 h3⟩⟩
theorem Reach.trans {t1 t2:Simp.Tab} (h1:Reach m N t0 t1) (h2:Reach m N t1 t2):Reach m N t0 t2 :=
 ⟨h2.fit,fun x hx=>h2.ker x (h1.ker x hx),fun x hx=>by rw [h2.cost x (h1.ker x hx)]; exact h1.cost x hx⟩
theorem Uv.safe {t1:Simp.Tab} (hs:Uv F G m N t0) (h:Reach m N t0 t1):Safe F G m N L t1:=by
 rcases hs with hs|⟨fit,hT,hs⟩
 ·exact .inl hs
 ·refine .inr ⟨fit,hT,fun K R h0=>?_⟩;exact Ya1z
theorem R7:∀ {n k:Nat} {t:Tb},t.fl=true->(settleF F n k t).fl=true
 | 0,_,_,h=>h
 | n+1,k,t,h=>by
  refine R7 (n:=n) (k:=k+1) ?_;unfold Dq;split
  ·exact h
  ·split
   ·simp [Dm,h]
   ·exact h
structure Ark (G:Q->Prop) (m N L:Nat) (t0:Simp.Tab) (t t':Tb):Prop where
 fl:t'.fl=false
 ok:TOk G m N t'
 real:t'.real=L
 reach:Reach m N t0 (tabV t')
 set:Simp.Settled m N L m (tabV t')
 ker:∀ x,Simp.Ker m N (tabV t') x↔Simp.Ker m N (tabV t) x
theorem Ns (hE:F.Exact G) (hs:Uv F G m N t0) (hLN:L<=N):∀ (n k:Nat) {t:Tb},k+n=m->TOk G m N t->t.real=L->t.fl=false->Reach m N t0 (tabV t)->Simp.Settled m N L k (tabV t)->(F.stop=true/\(settleF F n k t).fl=true)\/Ark G m N L t0 t (settleF F n k t)
 | 0,k,t,hk,ht,hL,hfl,hr,hS=>by
  have:k=m:=aA
  subst this;exact .inr ⟨hfl,ht,hL,hr,hS,fun _=>Iff.rfl⟩
 | n+1,k,t,hk,ht,hL,hfl,hr,hS=>by
  have c9:k<m:=aA
  have bl:=Ep ht c9;show (F.stop=true/\(settleF F n (k+1) (Dq F t k)).fl=true)\/Ark G m N L t0 t (settleF F n (k+1) (Dq F t k));unfold Dq;by_cases hb:at_ 0 t.basis k<t.real
  ·rw [if_pos hb];exact Ns hE hs hLN n (k+1) aA ht hL hfl hr (hS.skip (.inl (by rw [<- hL]; exact hb)))
  ·rw [if_neg hb];have hz:=Am2 hE (ht.okr _ bl) (n:=t.real) (k:=0) (by rw [ht.rowW _ bl,hL]; omega);cases hc:nzF (Ba t k) t.real 0 with
   | none =>
    rw [hc] at hz;simp only;exact Ns hE hs hLN n (k+1) aA ht hL hfl hr (hS.skip (.inr fun j hj=>hz j (Cl _) aA))
   | some c =>
    rw [hc] at hz;obtain ⟨-,hcL,hne⟩:=hz;simp only;have hcN:c<N+1:=aA
    cases hpf:(Dm F t k c).fl with
    | true =>
     cases aj:F.stop with
     | true=>exact .inl ⟨rfl,R7 hpf⟩
     | false =>
      rcases hs with hs|⟨fit,hT,hs⟩
      ·rw [hs] at aj; cases aj
      ·have:=Yb hE hT ht c9 hcN hne hfl ((hs _ hr).2 k c c9 aA hne);rw [hpf] at this; cases this
    | false =>
     obtain ⟨x1,x2⟩:=Ac9 hE ht c9 hcN hne hpf;have hB:L<=(tabV t).B k:=by rw [<- hL]; exact O9 hb
     rcases Ns hE hs hLN n (k+1) (t:=Dm F t k c) aA x1 hL hpf (by rw [x2]; exact hr.piv c9 aA hne) Za74 with h|h
     ·exact .inl h
     ·refine .inr ⟨h.fl,h.ok,h.real,h.reach,h.set,fun x=>?_⟩;rw [h.ker x,x2]; exact Simp.piv_ker c9 hne x
end
end
section
open Go Go.Proofs.Tryz
set_option maxHeartbeats 2000000
set_option maxRecDepth 100000
def tS (a:Q):Bool:=smB a.1 && smB a.2
def tN (a:Q):Int:=if tS a=true then a.1 else 0
def tD (a:Q):Int:=if tS a=true then a.2 else 0
def tO (a:Q):Bool:=tS a && decide (0<a.2)
section
variable (S:List Ent) (tk:List Nat) (k:Nat)
theorem Kb (a:Q) (ha:okW a):cL prog 66 [.agg (ceW a)] S tk k=some (.tup [.int (tN a),.int (tD a),.bool (tO a)],S,tk,k):=by
 obtain ⟨l1,l2⟩:=Gx ha;have h0:0<=a.2:=by
  rcases ha with h|h
  ·have:=h.pos; omega
  ·rw [h]; exact Int.le_refl 0
 obtain ⟨an,ad⟩:=a;simp only at l1 l2 h0;simp only [ceW,digA];refine opP func66 ntmps66 (hp3:=rfl) ?_;by_cases jd:(dig an.natAbs).length<=2
 ·have b1:smB an=true:=dI
  have d1:decide (((dig an.natAbs).length:Int) > 2)=false:=aD
  by_cases fh:(dig ad.natAbs).length<=2
  ·have b2:smB ad=true:=dI
   have d2:decide (((dig ad.natAbs).length:Int) > 2)=false:=aD
   have e1:tN (an,ad)=an:=by simp [tN,tS,b1,b2]
   have e2:tD (an,ad)=ad:=by simp [tD,tS,b1,b2]
   have e3:tO (an,ad)=decide (0<ad):=by simp [tO,tS,b1,b2]
   rw [e1,e2,e3];have x1:=N6 b1;have x2:=N6 b2;have d3:=Jd (n:=(dig an.natAbs).length) aA;have d4:=Jd (n:=(dig ad.natAbs).length) aA;simp (maxSteps:=10^6)+contextual(disch:=try exact dqd)only[ev1,simprocAttr,Cb,Bg,Cc,results66,d1,d2,d3];refine loop1 (P:=prog) (fun x st=>st.T.length=66/\(x.1<=(dig an.natAbs).length)/\(x.2=((topV (dig an.natAbs) x.1:Nat):Int))/\getT st.T 1=.ref 0 0 0/\getT st.T 5=.int x.2/\getT st.T 6=.int 0/\getT st.T 7=.int ((x.1:Int) - 1)/\st.S=[⟨0,[.prim (.bool (decide (an<0))),.frz ((dig an.natAbs).map digC) .unk,.prim (.bool (decide (ad<0))),.frz ((dig ad.natAbs).map digC) .unk]⟩]) (fun x=>x.1) (fun x=>.tup [.int an,.int ad,.bool (decide (0<ad))]) ((dig an.natAbs).length,(0:Int)) ?_ ?_;case refine_2=>exact ⟨rfl,Ce _,by rw [Aao]; rfl,rfl,rfl,rfl,rfl,rfl⟩
   rintro ⟨n,v⟩ ⟨T,S',tk',n'⟩ ⟨hl,hn,hv,e1,e5,e6,e7,eS⟩ IH;simp only at hn hv e1 e5 e6 e7 eS;subst eS;obtain ⟨g,hg,hT⟩:=Au hl;rw [hg] at e1 e5 e6 e7;subst hT;clear hg hl;subst hv;by_cases gn:n=0
   ·subst gn;have g2:decide (((0:Nat):Int) - 1 >= 0)=false:=rfl;have ht:topV (dig an.natAbs) 0=an.natAbs:=eV
    rw [ht] at e5;simp (maxSteps:=10^6)+contextual(disch:=try exact dqd)only[ev1,simprocAttr,Cb,Bg,Cc,results66,e1,e5,e6,e7,g2,d4];refine loop1 (P:=prog) (fun x st=>st.T.length=66/\(x.1<=(dig ad.natAbs).length)/\(x.2=((topV (dig ad.natAbs) x.1:Nat):Int))/\getT st.T 1=.ref 0 0 0/\getT st.T 5=.int (an.natAbs:Nat)/\getT st.T 6=.int x.2/\getT st.T 8=.int ((x.1:Int) - 1)/\st.S=[⟨0,[.prim (.bool (decide (an<0))),.frz ((dig an.natAbs).map digC) .unk,.prim (.bool (decide (ad<0))),.frz ((dig ad.natAbs).map digC) .unk]⟩]) (fun x=>x.1) (fun x=>.tup [.int an,.int ad,.bool (decide (0<ad))]) ((dig ad.natAbs).length,(0:Int)) ?_ ?_;case refine_2=>exact ⟨rfl,Ce _,by rw [Aao]; rfl,rfl,rfl,rfl,rfl,rfl⟩
    rintro ⟨n,v⟩ ⟨T,S',tk',n'⟩ ⟨hl,hn,hv,e1,e5,e6,e8,eS⟩ IH;simp only at hn hv e1 e5 e6 e8 eS;subst eS;obtain ⟨g,hg,hT⟩:=Au hl;rw [hg] at e1 e5 e6 e8;subst hT;clear hg hl;subst hv;by_cases gn:n=0
    ·subst gn;have g2:decide (((0:Nat):Int) - 1 >= 0)=false:=rfl;have ht:topV (dig ad.natAbs) 0=ad.natAbs:=eV
     have hz:((ad.natAbs:Nat):Int)=ad:=aA
     rw [ht,hz] at e6;have g3:decide (ad > 0)=decide (0<ad):=rfl;by_cases hneg:an<0
     ·have g4:decide (an<0)=true:=aX
      have v3:Ca.wrap (0 - ((an.natAbs:Nat):Int))=an:=aS
      have v4:Ca.wrap (-((an.natAbs:Nat):Int))=an:=aS
      simp (maxSteps:=10^6)+contextual(disch:=try exact dqd)only[ev1,simprocAttr,Cb,Bg,Cc,results66,e1,e5,e6,e8,g2,g3,g4,v3,v4]
     ·have g4:decide (an<0)=false:=aX
      have hz2:((an.natAbs:Nat):Int)=an:=aA
      rw [hz2] at e5;simp (maxSteps:=10^6)+contextual(disch:=try exact dqd)only[ev1,simprocAttr,Cb,Bg,Cc,results66,e1,e5,e6,e8,g2,g3,g4]
    ·have g2:decide ((n:Int) - 1 >= 0)=true:=aD
     have hi:(n:Int) - 1=((n - 1:Nat):Int):=aA
     obtain ⟨x,hx⟩:=Af (show n - 1<(dig ad.natAbs).length by omega);have hx':=B2 hx;have hxk:=Ed (Bo ad.natAbs) hx;have aj:=Re (Bo ad.natAbs) hx;rw [show n - 1+1=n by omega] at aj;have hb1:=Ta (a:=ad.natAbs) (k:=n);have hb2:=Ta (a:=ad.natAbs) (k:=n - 1);have hp:=Jd (n:=n - 1) aA;have hw1:Ca.wrap (10000*(topV (dig ad.natAbs) n:Int))=10000*(topV (dig ad.natAbs) n:Int):=Ac aC;have hw2:Ca.wrap (10000*(topV (dig ad.natAbs) n:Int)+x)=((topV (dig ad.natAbs) (n - 1):Nat):Int):=by
      rw [Ac aC]; omega
     rw [hi] at e8 g2;simp (maxSteps:=10^6)+contextual(disch:=try exact dqd)only[ev1,simprocAttr,Cb,Bg,Cc,results66,e1,e5,e6,e8,g2,hx',hp,hw1,hw2];exact IH (n - 1,((topV (dig ad.natAbs) (n - 1):Nat):Int)) _ aF ⟨rfl,aE,rfl,aG,aG,aG,aG,aG⟩
   ·have g2:decide ((n:Int) - 1 >= 0)=true:=aD
    have hi:(n:Int) - 1=((n - 1:Nat):Int):=aA
    obtain ⟨x,hx⟩:=Af (show n - 1<(dig an.natAbs).length by omega);have hx':=B2 hx;have hxk:=Ed (Bo an.natAbs) hx;have aj:=Re (Bo an.natAbs) hx;rw [show n - 1+1=n by omega] at aj;have hb1:=Ta (a:=an.natAbs) (k:=n);have hb2:=Ta (a:=an.natAbs) (k:=n - 1);have hp:=Jd (n:=n - 1) aA;have hw1:Ca.wrap (10000*(topV (dig an.natAbs) n:Int))=10000*(topV (dig an.natAbs) n:Int):=Ac aC;have hw2:Ca.wrap (10000*(topV (dig an.natAbs) n:Int)+x)=((topV (dig an.natAbs) (n - 1):Nat):Int):=by
     rw [Ac aC]; omega
    rw [hi] at e7 g2;simp (maxSteps:=10^6)+contextual(disch:=try exact dqd)only[ev1,simprocAttr,Cb,Bg,Cc,results66,e1,e5,e6,e7,g2,hx',hp,hw1,hw2];exact IH (n - 1,((topV (dig an.natAbs) (n - 1):Nat):Int)) _ aF ⟨rfl,aE,rfl,aG,aG,aG,aG,aG⟩
  ·have b2:smB ad=false:=dI
   have d2:decide (((dig ad.natAbs).length:Int) > 2)=true:=aD
   have e1:tN (an,ad)=0:=by simp [tN,tS,b1,b2]
   have e2:tD (an,ad)=0:=by simp [tD,tS,b1,b2]
   have e3:tO (an,ad)=false:=by simp [tO,tS,b1,b2]
   rw [e1,e2,e3];simp (maxSteps:=10^6)+contextual(disch:=try exact dqd)only[ev1,simprocAttr,Cb,Bg,Cc,results66,d1,d2]
 ·have b1:smB an=false:=dI
  have d1:decide (((dig an.natAbs).length:Int) > 2)=true:=aD
  have e1:tN (an,ad)=0:=by simp [tN,tS,b1]
  have e2:tD (an,ad)=0:=by simp [tD,tS,b1]
  have e3:tO (an,ad)=false:=by simp [tO,tS,b1]
  rw [e1,e2,e3];simp (maxSteps:=10^6)+contextual(disch:=try exact dqd)only[ev1,simprocAttr,Cb,Bg,Cc,results66,d1]
theorem M7 (a:Q):cL prog 61 [.agg (ceW a)] S tk k=some (.int (sgn a),S,tk,k):=by
 obtain ⟨an,ad⟩:=a;simp only [ceW,digA];refine opP func61 ntmps61 (hp3:=rfl) ?_;unfold sgn;simp only;by_cases h:an<0
 ·have d1:decide (an<0)=true:=aM
  rw [if_pos h];simp (maxSteps:=10^6)+contextual(disch:=try exact dqd)only[ev1,simprocAttr,Cb,Bg,Cc,results61,d1]
 ·have d1:decide (an<0)=false:=aM
  rw [if_neg h];have hl:dig an.natAbs=[]↔an.natAbs=0:=Gh;by_cases h0:an=0
  ·subst h0;rw [if_neg aA];have d2:(((dig 0).length:Int) == 0)=true:=by rw [B9]; rfl
   exact Ya1q
  ·rw [if_pos aA];have d2:(((dig an.natAbs).length:Int) == 0)=false:=by
    have:dig an.natAbs≠[]:=fun e=>by have:=hl.1 e; omega
    exact Ya1m
   exact Ya1q
theorem Rk (n d:Int) (hn:n.natAbs<=100000000000000000) (hd:d.natAbs<=100000000000000000) (di:d≠0):cL prog 67 [.int n,.int d] S tk k=some (.agg (ceW (lowN n d,lowD n d)),S,tk,k):=by
 refine opP func67 ntmps67 (hp3:=rfl) ?_;obtain ⟨N,hN⟩:∃ N,N=if d<0 then -n else n:=⟨_,rfl⟩
 obtain ⟨D,hD⟩:∃ D:Nat,D=d.natAbs:=⟨_,rfl⟩;obtain ⟨g,hg⟩:∃ g:Nat,g=n.natAbs.gcd d.natAbs:=⟨_,rfl⟩;have hNn:N.natAbs=n.natAbs:=by subst hN; split <;> omega
 have nj:g≠0:=by have:=Iy n.natAbs (show 0<d.natAbs by omega); omega
 have f1:lowN n d=N.tdiv ((g:Nat):Int):=by unfold lowN; rw [<- hN,<- hg]
 have f2:lowD n d=((D:Nat):Int).tdiv ((g:Nat):Int):=by
  unfold lowD;rw [<- hg,<- hD,Fe aA]; rfl
 obtain ⟨res,hr⟩:∃ r:Q,r=(lowN n d,lowD n d):=⟨_,rfl⟩;rw [<- hr];rw [f1,f2] at hr;by_cases hneg:d<0
 ·have d1:decide (d<0)=true:=aX
  have w1':Ca.wrap (0 - n)=N:=by rw [hN,if_pos hneg,Ac aC]; omega
  have w2':Ca.wrap (0 - d)=((D:Nat):Int):=by rw [hD,Ac aC]; omega
  by_cases gn:N<0
  ·have d2:decide (N<0)=true:=cN
   have w3':Ca.wrap (0 - N)=((N.natAbs:Nat):Int):=aS
   simp (maxSteps:=10^6)+contextual(disch:=try exact dqd)only[ev1,simprocAttr,Cb,Bg,Cc,results67,d1,w1',w2',d2,w3'];refine loop1 (P:=prog) (fun x st=>st.T.length=34/\(x.1.gcd x.2=g)/\(x.1<=100000000000000000)/\(x.2<=100000000000000000)/\getT st.T 0=.int N/\getT st.T 1=.int (D:Nat)/\getT st.T 4=.ref 0 0 0/\getT st.T 5=.int (x.1:Nat)/\getT st.T 6=.int (x.2:Nat)/\st.S=[⟨0,[.prim (.bool false),.frz [] .nilc,.prim (.bool false),.frz [] .nilc]⟩]) (fun x=>x.2) (fun x=>.agg (ceW res)) (N.natAbs,D) ?_ ?_;case refine_2=>exact ⟨rfl,cO,aA,aA,rfl,rfl,rfl,rfl,rfl,rfl⟩
   rintro ⟨x,y⟩ ⟨T,S',tk',n'⟩ ⟨hl,i5,hx,hy,e0,e1,e4,e5,e6,eS⟩ IH;simp only at i5 hx hy e0 e1 e4 e5 e6 eS;subst eS;obtain ⟨g,hg,hT⟩:=Au hl;rw [hg] at e0 e1 e4 e5 e6;subst hT;clear hg hl;by_cases h0:y=0
   ·subst h0;have c1:(((0:Nat):Int) != 0)=false:=rfl;rw [Og] at i5;subst i5;have hz:¬ ((x:Int)=0):=aA
    have v1:=Bb N x;have v2:=Bb (D:Int) x;have w5:Ca.wrap (N.tdiv (x:Int))=N.tdiv (x:Int):=Ac aC;have w6:Ca.wrap ((D:Int).tdiv (x:Int))=(D:Int).tdiv (x:Int):=Ac aC;have hA:=fun S tk k=>Ps S tk k (N.tdiv (x:Int)) aC;exact Yab
   ·exact Ya6
  ·have d2:decide (N<0)=false:=cN
   simp (maxSteps:=10^6)+contextual(disch:=try exact dqd)only[ev1,simprocAttr,Cb,Bg,Cc,results67,d1,w1',w2',d2];obtain ⟨M,hM⟩:∃ M:Nat,N=M:=⟨N.natAbs,aA⟩;exact Ya4
 ·have d1:decide (d<0)=false:=aX
  have a2x:n=N:=by rw [hN,if_neg hneg]
  have hDd:d=(D:Int):=aA
  subst a2x;subst hDd;by_cases gn:n<0
  ·have d2:decide (n<0)=true:=cN
   have w3':Ca.wrap (0 - n)=((n.natAbs:Nat):Int):=aS
   simp (maxSteps:=10^6)+contextual(disch:=try exact dqd)only[ev1,simprocAttr,Cb,Bg,Cc,results67,d1,d2,w3'];refine loop1 (P:=prog) (fun x st=>st.T.length=34/\(x.1.gcd x.2=g)/\(x.1<=100000000000000000)/\(x.2<=100000000000000000)/\getT st.T 0=.int n/\getT st.T 1=.int (D:Nat)/\getT st.T 4=.ref 0 0 0/\getT st.T 5=.int (x.1:Nat)/\getT st.T 6=.int (x.2:Nat)/\st.S=[⟨0,[.prim (.bool false),.frz [] .nilc,.prim (.bool false),.frz [] .nilc]⟩]) (fun x=>x.2) (fun x=>.agg (ceW res)) (n.natAbs,D) ?_ ?_;case refine_2=>exact ⟨rfl,cO,aA,aA,rfl,rfl,rfl,rfl,rfl,rfl⟩
   rintro ⟨x,y⟩ ⟨T,S',tk',n'⟩ ⟨hl,i5,hx,hy,e0,e1,e4,e5,e6,eS⟩ IH;simp only at i5 hx hy e0 e1 e4 e5 e6 eS;subst eS;obtain ⟨g,hg,hT⟩:=Au hl;rw [hg] at e0 e1 e4 e5 e6;subst hT;clear hg hl;by_cases h0:y=0
   ·subst h0;have c1:(((0:Nat):Int) != 0)=false:=rfl;rw [Og] at i5;subst i5;have hz:¬ ((x:Int)=0):=aA
    have v1:=Bb n x;have v2:=Bb (D:Int) x;have w5:Ca.wrap (n.tdiv (x:Int))=n.tdiv (x:Int):=Ac aC;have w6:Ca.wrap ((D:Int).tdiv (x:Int))=(D:Int).tdiv (x:Int):=Ac aC;have hA:=fun S tk k=>Ps S tk k (n.tdiv (x:Int)) aC;exact Yab
   ·exact Ya6
  ·have d2:decide (n<0)=false:=cN
   simp (maxSteps:=10^6)+contextual(disch:=try exact dqd)only[ev1,simprocAttr,Cb,Bg,Cc,results67,d1,d2];obtain ⟨M,hM⟩:∃ M:Nat,n=M:=⟨n.natAbs,aA⟩;exact Ya4
end
end
section
open Go Go.Proofs.Tryz
set_option maxHeartbeats 2000000
set_option maxRecDepth 100000
structure Tiny (a:Q):Prop where
 n:tN a=a.1
 d:tD a=a.2
 l1:a.1.natAbs<100000000
 l2:a.2.natAbs<100000000
 pos:0<a.2
theorem M4 {a:Q} (h:tO a=true):Tiny a:=by
 simp only [tO,tS,Ci,decide_eq_true_eq] at h;have h1:tS a=true:=by simp [tS,h.1.1,h.1.2]
 exact ⟨by simp [tN,h1],by simp [tD,h1],N6 h.1.1,N6 h.1.2,h.2⟩
theorem Jo {x y:Int} (hx:x.natAbs<100000000) (hy:y.natAbs<100000000):(x*y).natAbs<=9999999800000001:=by
 rw [Ii];exact Fs (Iv (show x.natAbs<=99999999 by omega) (show y.natAbs<=99999999 by omega)) aA
theorem Aas {n d:Int} (hn:n.natAbs<=100000000000000000) (hd:d.natAbs<=100000000000000000) (h0:d≠0):(wn n d).1=(lowN n d,lowD n d):=by
 have hf:=Xx hn hd h0;unfold wn resN resD;simp only [hf,if_true]
theorem Mv {a:Q} (h:Tiny a):qz a=a:=by
 have:=h.pos;unfold qz; rw [if_neg aA]
section
variable (S:List Ent) (tk:List Nat) (k:Nat)
theorem Yy (a b:Q) (ha:okW a) (hb:okW b):cL prog 41 [.agg (ceW a),.agg (ceW b)] S tk k=some (.agg (ceW (WW.qF.minus a b).1),S,tk,k):=by
 obtain ⟨r,hr⟩:∃ r,r=(WW.qF.minus a b).1:=⟨_,rfl⟩;rw [<- hr];simp only [WW.qF] at hr;obtain ⟨l1,l2⟩:=Gx ha;obtain ⟨l3,l4⟩:=Gx hb;obtain ⟨g1,g2⟩:=qz_n ha;obtain ⟨g3,g4⟩:=qz_n hb;have a7:=fun S tk k=>Kb S tk k a ha;have ai:=fun S tk k=>Kb S tk k b hb;obtain ⟨an,ad⟩:=a;obtain ⟨bn,bd⟩:=b;simp only at l1 l2 l3 l4 g1 g2 g3 g4;refine opP func41 ntmps41 (hp3:=rfl) ?_;cases h1:tO (an,ad) with
 | true =>
  have t1:=M4 h1;have q1:=Mv t1;have p1:=t1.pos;have m1:=t1.l1;have m2:=t1.l2;rw [h1,t1.n,t1.d] at a7;simp only at p1 m1 m2;cases h2:tO (bn,bd) with
  | true =>
   have t2:=M4 h2;have q2:=Mv t2;have p2:=t2.pos;have m3:=t2.l1;have m4:=t2.l2;rw [h2,t2.n,t2.d] at ai;simp only at p2 m3 m4;have b1:=Jo m1 m4;have b2:=Jo m3 m2;have b3:=Jo m2 m4;have hd:ad*bd≠0:=Il aA aA;rw [q1,q2] at hr;simp only at hr;rw [iD] at hr;have e:an*bd+-(bn*ad)=an*bd - bn*ad:=aA
   rw [e,Aas aA aA hd] at hr;have hL:=fun S tk k=>Rk S tk k (an*bd - bn*ad) (ad*bd) aA aA hd;rw [<- hr] at hL;have v1:Ca.wrap (an*bd)=an*bd:=Ac aC;have v2:Ca.wrap (bn*ad)=bn*ad:=Ac aC;have v3:Ca.wrap (an*bd - bn*ad)=an*bd - bn*ad:=Ac aC;have v4:Ca.wrap (ad*bd)=ad*bd:=Ac aC;simp only [ceW,digA] at a7 ai hL ⊢;simp (maxSteps:=10^6)+contextual(disch:=try exact dqd)only[ev1,simprocAttr,Cb,Bg,Cc,results41,a7,ai,v1,v2,v3,v4,hL]
  | false =>
   rw [h2] at ai;exact Yao
 | false =>
  rw [h1] at a7;exact Yao
theorem Asj (a b:Q) (ha:okW a) (hb:okW b):cL prog 64 [.agg (ceW a),.agg (ceW b)] S tk k=some (.agg (ceW (WW.qF.times a b).1),S,tk,k):=by
 obtain ⟨r,hr⟩:∃ r,r=(WW.qF.times a b).1:=⟨_,rfl⟩;rw [<- hr];simp only [WW.qF] at hr;obtain ⟨l1,l2⟩:=Gx ha;obtain ⟨l3,l4⟩:=Gx hb;obtain ⟨g1,g2⟩:=qz_n ha;obtain ⟨g3,g4⟩:=qz_n hb;have a7:=fun S tk k=>Kb S tk k a ha;have ai:=fun S tk k=>Kb S tk k b hb;obtain ⟨an,ad⟩:=a;obtain ⟨bn,bd⟩:=b;simp only at l1 l2 l3 l4 g1 g2 g3 g4;refine opP func64 ntmps64 (hp3:=rfl) ?_;cases h1:tO (an,ad) with
 | true =>
  have t1:=M4 h1;have q1:=Mv t1;have p1:=t1.pos;have m1:=t1.l1;have m2:=t1.l2;rw [h1,t1.n,t1.d] at a7;simp only at p1 m1 m2;cases h2:tO (bn,bd) with
  | true =>
   have t2:=M4 h2;have q2:=Mv t2;have p2:=t2.pos;have m3:=t2.l1;have m4:=t2.l2;rw [h2,t2.n,t2.d] at ai;simp only at p2 m3 m4;have b1:=Jo m1 m3;have b3:=Jo m2 m4;have hd:ad*bd≠0:=Il aA aA;rw [q1,q2] at hr;simp only at hr;rw [Aas aA aA hd] at hr;have hL:=fun S tk k=>Rk S tk k (an*bn) (ad*bd) aA aA hd;rw [<- hr] at hL;have v1:Ca.wrap (an*bn)=an*bn:=Ac aC;have v4:Ca.wrap (ad*bd)=ad*bd:=Ac aC;simp only [ceW,digA] at a7 ai hL ⊢;simp (maxSteps:=10^6)+contextual(disch:=try exact dqd)only[ev1,simprocAttr,Cb,Bg,Cc,results64,a7,ai,v1,v4,hL]
  | false =>
   rw [h2] at ai;exact Yap
 | false =>
  rw [h1] at a7;exact Yap
theorem Ad2 (a b:Q) (ha:okW a) (hb:okW b):cL prog 93 [.agg (ceW a),.agg (ceW b)] S tk k=some (.agg (ceW (WW.qF.over a b).1),S,tk,k):=by
 obtain ⟨r,hr⟩:∃ r,r=(WW.qF.over a b).1:=⟨_,rfl⟩;rw [<- hr];simp only [WW.qF] at hr;obtain ⟨l1,l2⟩:=Gx ha;obtain ⟨l3,l4⟩:=Gx hb;obtain ⟨g1,g2⟩:=qz_n ha;obtain ⟨g3,g4⟩:=qz_n hb;have a7:=fun S tk k=>Kb S tk k a ha;have ai:=fun S tk k=>Kb S tk k b hb;obtain ⟨an,ad⟩:=a;obtain ⟨bn,bd⟩:=b;simp only at l1 l2 l3 l4 g1 g2 g3 g4;refine opP func93 ntmps93 (hp3:=rfl) ?_;cases h1:tO (an,ad) with
 | true =>
  have t1:=M4 h1;have q1:=Mv t1;have p1:=t1.pos;have m1:=t1.l1;have m2:=t1.l2;rw [h1,t1.n,t1.d] at a7;simp only at p1 m1 m2;cases h2:tO (bn,bd) with
  | true =>
   have t2:=M4 h2;have q2:=Mv t2;have p2:=t2.pos;have m3:=t2.l1;have m4:=t2.l2;rw [h2,t2.n,t2.d] at ai;simp only at p2 m3 m4;by_cases hb0:bn=0
   ·have c0:(bn != 0)=false:=by simp [hb0]
    have hJ:=fun S tk k=>Adz S tk k (decide (an<0)) (dig an.natAbs) (decide (ad<0)) (dig ad.natAbs) (decide (bn<0)) (dig bn.natAbs) (decide (bd<0)) (dig bd.natAbs) aA aA aA aA;rw [g1,g2,g3,g4] at hJ;simp only [resQ,qA,ratA,ceW,digA] at a7 ai hJ ⊢;simp (maxSteps:=10^6)+contextual(disch:=try exact dqd)only[ev1,simprocAttr,Cb,Bg,Cc,results93,a7,ai,c0,hJ];rw [hr]; exact ⟨rfl,rfl,rfl,rfl⟩
   have c0:(bn != 0)=true:=by simp [hb0]
   have b1:=Jo m1 m4;have b3:=Jo m2 m3;have hd:ad*bn≠0:=Il aA hb0;rw [q1,q2] at hr;simp only at hr;rw [Aas aA aA hd] at hr;have hL:=fun S tk k=>Rk S tk k (an*bd) (ad*bn) aA aA hd;rw [<- hr] at hL;have v1:Ca.wrap (an*bd)=an*bd:=Ac aC;have v4:Ca.wrap (ad*bn)=ad*bn:=Ac aC;simp only [ceW,digA] at a7 ai hL ⊢;simp (maxSteps:=10^6)+contextual(disch:=try exact dqd)only[ev1,simprocAttr,Cb,Bg,Cc,results93,a7,ai,c0,v1,v4,hL]
  | false =>
   rw [h2] at ai;exact Yaq
 | false =>
  rw [h1] at a7;exact Yaq
def cmpW (a b:Q):Int:=cmpZ ((qz a).1*(qz b).2) ((qz b).1*(qz a).2)
theorem Asi (a b:Q) (ha:okW a) (hb:okW b):cL prog 95 [.agg (ceW a),.agg (ceW b)] S tk k=some (.int (cmpW a b),S,tk,k):=by
 obtain ⟨r,hr⟩:∃ r,r=cmpW a b:=⟨_,rfl⟩;rw [<- hr];unfold cmpW at hr;obtain ⟨l1,l2⟩:=Gx ha;obtain ⟨l3,l4⟩:=Gx hb;obtain ⟨g1,g2⟩:=qz_n ha;obtain ⟨g3,g4⟩:=qz_n hb;have a7:=fun S tk k=>Kb S tk k a ha;have ai:=fun S tk k=>Kb S tk k b hb;obtain ⟨an,ad⟩:=a;obtain ⟨bn,bd⟩:=b;simp only at l1 l2 l3 l4 g1 g2 g3 g4;refine opP func95 ntmps95 (hp3:=rfl) ?_;cases h1:tO (an,ad) with
 | true =>
  have t1:=M4 h1;have q1:=Mv t1;have p1:=t1.pos;have m1:=t1.l1;have m2:=t1.l2;rw [h1,t1.n,t1.d] at a7;simp only at p1 m1 m2;cases h2:tO (bn,bd) with
  | true =>
   have t2:=M4 h2;have q2:=Mv t2;have p2:=t2.pos;have m3:=t2.l1;have m4:=t2.l2;rw [h2,t2.n,t2.d] at ai;simp only at p2 m3 m4;have b1:=Jo m1 m4;have b2:=Jo m3 m2;rw [q1,q2] at hr;simp only at hr;have v1:Ca.wrap (an*bd)=an*bd:=Ac aC;have v2:Ca.wrap (bn*ad)=bn*ad:=Ac aC;unfold cmpZ at hr;simp only [ceW,digA] at a7 ai ⊢;by_cases c1:an*bd<bn*ad
   ·have k1:decide (an*bd<bn*ad)=true:=by simpa using c1
    rw [if_pos c1] at hr;subst hr;simp (maxSteps:=10^6)+contextual(disch:=try exact dqd)only[ev1,simprocAttr,Cb,Bg,Cc,results95,a7,ai,v1,v2,k1]
   ·have k1:decide (an*bd<bn*ad)=false:=by simpa using c1
    rw [if_neg c1] at hr;by_cases c2:an*bd > bn*ad
    ·have k2:decide (an*bd > bn*ad)=true:=by simpa using c2
     rw [if_pos aA] at hr;exact Ya1b
    ·have k2:decide (an*bd > bn*ad)=false:=by simpa using c2
     rw [if_neg aA] at hr;exact Ya1b
  | false =>
   rw [h2] at ai;exact Yas
 | false =>
  rw [h1] at a7;exact Yas
end
end
section
open Go
def ovR (p:Q) (row:List Q):List Q:=row.map fun x=>(WW.qF.over x p).1
def zipR (f:Q):List Q->List Q->List Q
 | a :: l,b :: r=>(WW.qF.minus a (WW.qF.times f b).1).1 :: zipR f l r
 | _,_=>[]
def lsR (f:Q) (a b:List Q):List Q:=if sgn f=0 then a else zipR f a b
def rowsR (row:List Q) (c i:Nat):Nat->List (List Q)->List (List Q)
 | _,[]=>[]
 | k,r :: l=>(if k=i then r else lsR (at_ q0 r c) r row) :: rowsR row c i (k+1) l
def pivR (t:Tb) (i c:Nat):Tb :=
 { t with rows:=rowsR (ovR (at_ q0 (Ba t i) c) (Ba t i)) c i 0 (put t.rows i (ovR (at_ q0 (Ba t i) c) (Ba t i))),cost:=lsR (at_ q0 t.cost c) t.cost (ovR (at_ q0 (Ba t i) c) (Ba t i)),basis:=put t.basis i c }
def quoR (r:List Q) (c W:Nat):Q:=(WW.qF.over (at_ q0 r (W - 1)) (at_ q0 r c)).1
def W8 (basis:List Nat) (s:Int) (k bi:Nat):Bool:=decide (s<0) || (s == 0 && decide (at_ 0 basis k<at_ 0 basis bi))
def G0 (t:Tb) (c:Nat):Nat->List (List Q)->Option Nat->Option Nat
 | _,[],b=>b
 | k,r :: l,b =>
  if sgn (at_ q0 r c)<=0 then G0 t c (k+1) l b else
   match b with
   | none=>G0 t c (k+1) l (some k)
   | some bi=>G0 t c (k+1) l (if W8 t.basis (cmpW (quoR r c t.cost.length) (quoR (Ba t bi) c t.cost.length)) k bi=true then some k else some bi)
def H5 (lim:Nat):Nat->Tb->Option (Bool × Tb)
 | 0,_=>none
 | n+1,t=>match colF t.cost lim 0 with
  | none=>some (true,t)
  | some c=>match G0 t c 0 t.rows none with
   | none=>some (false,t)
   | some i=>H5 lim n (pivR t i c)
def sgI (r:RowT):Int:=if -r.2.1<0 then -1 else 1
def iQ (n:Int):Q:=(n,1)
def Gg:List (ByteArray × Int)->ByteArray->Int
 | [],_=>0
 | c :: cs,s=>if sEq c.1 s=true then c.2 else Gg cs s
def Jb (s:Int) (cs:List (ByteArray × Int)):List ByteArray->List Q
 | []=>[]
 | v :: vs=>iQ (s*Gg cs v) :: iQ (-s*Gg cs v) :: Jb s cs vs
def Zu (m i:Nat) (r:RowT) (k:Nat):Int:=if k=m+i then 1 else if k=i/\r.2.2=false then sgI r else 0
def Jk (vars:List ByteArray) (m i:Nat) (r:RowT):List Q:=Jb (sgI r) r.1 vars++(Cz (2*m)).map (fun k=>iQ (Zu m i r k))++[iQ (sgI r*-r.2.1)]
def linesR (vars:List ByteArray) (m:Nat):Nat->List RowT->List (List Q)
 | _,[]=>[]
 | i,r :: l=>Jk vars m i r :: linesR vars m (i+1) l
def colR (k:Nat):List (List Q)->Q->Q
 | [],c=>c
 | r :: l,c=>colR k l (WW.qF.minus c (at_ q0 r k)).1
def Ais (rows:List (List Q)) (real m k:Nat):Q:=colR k rows (iQ (if real<=k/\k<real+m then 1 else 0))
def Ds (l:List RowT) (vars:List ByteArray):Tb :=
 let real:=2*vars.length+l.length
 let rows:=linesR vars l.length 0 l
 { vars:=vars.length,real:=real,rows:=rows,cost:=(Cz (real+l.length+1)).map (Ais rows real l.length),basis:=(Cz l.length).map (real+·),flip:=l.map fun r=>decide (sgI r<0),fl:=false }
theorem Aat {f:Q} : ∀ {l r:List Q},l.length=r.length->(zipR f l r).length=l.length
 | [],[],_=>rfl
 | [],_ :: _,h=>aN
 | _ :: _,[],h=>aN
 | _ :: l,_ :: r,h=>by simp only [zipR,Ch,Aat (show l.length=r.length by simpa using h)]
theorem Qx {f:Q} {l r:List Q} (h:l.length=r.length):(lsR f l r).length=l.length:=by
 unfold lsR; split
 ·rfl
 ·exact Aat h
theorem Am5 {p:Q} {l:List Q} : (ovR p l).length=l.length:=Fj _
theorem Am7 {x p:Q} (hx:gW x) (hp:gW p) (h0:qv p≠0) (hf:Hc (qv x / qv p)):gW (WW.qF.over x p).1/\qv (WW.qF.over x p).1=qv x / qv p:=Em.over x p hx hp h0 (H0.over x p hx hp h0 hf)
theorem Ar1 {p:Q} (hp:gW p) (h0:qv p≠0):∀ {row:List Q},(∀ q ∈ row,gW q)->(∀ j,j<row.length->Hc (qv (at_ q0 row j) / qv p))->(∀ q ∈ ovR p row,gW q)/\∀ j,qv (at_ q0 (ovR p row) j)=qv (at_ q0 row j) / qv p
 | [],_,_=>⟨fun q h=>aR,fun j=>by simp only [ovR,Ei,Pw,Tx]; grind⟩
 | x :: l,hl,hf=>by
  have ih:=Ar1 hp h0 (row:=l) (fun q h=>hl q (Cp _ h)) fun j hj=>hf (j+1) bH;have hs:=Am7 (hl x (Cs ..)) hp h0 (hf 0 (by simp));exact Yaz
theorem Aop {f:Q} (hf:gW f):∀ {l r:List Q},l.length=r.length->(∀ q ∈ l,gW q)->(∀ q ∈ r,gW q)->(∀ j,j<r.length->Hc (qv f*qv (at_ q0 r j))/\Hc (qv (at_ q0 l j) - qv f*qv (at_ q0 r j)))->(∀ q ∈ zipR f l r,gW q)/\∀ j,qv (at_ q0 (zipR f l r) j)=qv (at_ q0 l j) - qv f*qv (at_ q0 r j)
 | [],[],_,_,_,_=>⟨fun q h=>aR,fun j=>by simp only [zipR,Pw,Tx]; grind⟩
 | [],_ :: _,h,_,_,_=>aN
 | _ :: _,[],h,_,_,_=>aN
 | a :: l,b :: r,h,hl,hr,hx=>by
  have ih:=Aop hf (l:=l) (r:=r) aM (fun q h=>hl q (Cp _ h)) (fun q h=>hr q (Cp _ h)) fun j hj=>hx (j+1) bH;have h0:=hx 0 (by simp);have ga:=hl a (Cs ..);have gb:=hr b (Cs ..);have t:=Em.times f b hf gb (H0.times f b hf gb h0.1);have d:=Em.minus a _ ga t.1 (H0.minus a _ ga t.1 (by rw [t.2]; exact h0.2));refine ⟨fun q h=>?_,fun j=>?_⟩
  ·rcases Cv.1 h with rfl|h
   ·exact d.1
   ·exact ih.1 q h
  ·cases j with
   | zero=>exact d.2.trans (by rw [t.2]; rfl)
   | succ j=>exact ih.2 j
theorem Amr {f:Q} (hf:gW f) {l r:List Q} (h:l.length=r.length) (hl:∀ q ∈ l,gW q) (hr:∀ q ∈ r,gW q) (hx:∀ j,j<r.length->Hc (qv f*qv (at_ q0 r j))/\Hc (qv (at_ q0 l j) - qv f*qv (at_ q0 r j))):(∀ q ∈ lsR f l r,gW q)/\∀ j,qv (at_ q0 (lsR f l r) j)=qv (at_ q0 l j) - qv f*qv (at_ q0 r j):=by
 unfold lsR;split
 ·rename_i h0;exact ⟨hl,fun j=>by rw [(Lu hf.pos).1 h0]; grind⟩
 ·exact Aop hf h hl hr hx
theorem Aac {row:List Q} {c i:Nat} : ∀ {l:List (List Q)} {k:Nat},(rowsR row c i k l).length=l.length
 | [],_=>rfl
 | r :: l,k=>by simp only [rowsR,Ch,Aac]
theorem Ahy {row:List Q} {c i W:Nat} (hc:c<W) (hw:row.length=W) (hr:∀ q ∈ row,gW q):∀ {l:List (List Q)} {k:Nat},(∀ r ∈ l,r.length=W)->(∀ r ∈ l,∀ q ∈ r,gW q) ->
  (∀ n j,n<l.length->k+n≠i->j<W->Hc (qv (at_ q0 (at_ [] l n) c)*qv (at_ q0 row j))/\Hc (qv (at_ q0 (at_ [] l n) j) - qv (at_ q0 (at_ [] l n) c)*qv (at_ q0 row j))) ->
  (∀ r ∈ rowsR row c i k l,r.length=W)/\(∀ r ∈ rowsR row c i k l,∀ q ∈ r,gW q)/\∀ n j,n<l.length->qv (at_ q0 (at_ [] (rowsR row c i k l) n) j)=if k+n=i then qv (at_ q0 (at_ [] l n) j) else qv (at_ q0 (at_ [] l n) j) - qv (at_ q0 (at_ [] l n) c)*qv (at_ q0 row j)
 | [],k,_,_,_=>⟨fun r h=>aR,fun r h=>aR,fun n j hn=>by simp at hn⟩
 | r :: l,k,hl,hg,hx=>by
  have ih:=Ahy hc hw hr (l:=l) (k:=k+1) (i:=i) (fun r h=>hl r (Cp _ h)) (fun r h=>hg r (Cp _ h)) fun n j hn hk hj=>hx (n+1) j cW aA hj;have uv:=hl r (Cs ..);have hgr:=hg r (Cs ..);have hs:(if k=i then r else lsR (at_ q0 r c) r row).length=W/\(∀ q ∈ (if k=i then r else lsR (at_ q0 r c) r row),gW q)/\∀ j,qv (at_ q0 (if k=i then r else lsR (at_ q0 r c) r row) j)=if k=i then qv (at_ q0 r j) else qv (at_ q0 r j) - qv (at_ q0 r c)*qv (at_ q0 row j):=by
   by_cases e:k=i
   ·simp only [if_pos e]; exact ⟨uv,hgr,fun j=>trivial⟩
   ·simp only [if_neg e];have hb:=hgr _ (Dy (d:=q0) (k:=c) aA);have h2:=Amr hb gZ hgr hr fun j hj=>hx 0 j (by simp) aA aA;exact ⟨by rw [Qx gZ]; exact uv,h2.1,h2.2⟩
  exact Ya00
section
variable {m N L:Nat}
theorem Anc {t:Tb} (h:TOk gW m N t) {i c:Nat} (hi:i<m) (hc:c<N+1) (h0:(tabV t).T i c≠0) (hp:Td Hc m N (tabV t) i c):TOk gW m N (pivR t i c)/\tabV (pivR t i c)=Simp.piv (tabV t) i c:=by
 have bl:=Ep h hi;have dh:=h.rowW _ bl;have hb:=h.okr _ bl _ (Dy (d:=q0) (k:=c) (by rw [dh]; exact hc));have d2:=Ar1 hb h0 (h.okr _ bl) fun j hj=>hp.row j (by rw [dh] at hj; exact hj);have dl:(ovR (at_ q0 (Ba t i) c) (Ba t i)).length=N+1:=Am5.trans dh;obtain ⟨d,hd⟩:∃ d,d=ovR (at_ q0 (Ba t i) c) (Ba t i):=⟨_,rfl⟩;rw [<- hd] at d2 dl;have hcm:at_ q0 t.cost c ∈ t.cost:=Dy Za5a;have r2:=Ahy (i:=i) (k:=0) hc dl d2.1 (l:=put t.rows i d) (fun r hr=>by
  rcases Jc hr with rfl|hr
  ·exact dl
  ·exact h.rowW r hr) (fun r hr=>by
  rcases Jc hr with rfl|hr
  ·exact d2.1
  ·exact h.okr r hr) (fun n j hn hk hj=>by
  rw [Aj,h.rows] at hn;rw [Kz dV,if_neg aA,d2.2];exact ⟨hp.mul n j hn hj,hp.sub n j hn hj aA⟩)
 have k2:=Amr (h.okc _ hcm) (r:=d) (l:=t.cost) fV h.okc d2.1 (fun j hj=>by
  rw [dl] at hj;rw [d2.2];exact ⟨hp.cmul j hj,hp.csub j hj⟩)
 have hP:pivR t i c={ t with rows:=rowsR d c i 0 (put t.rows i d),cost:=lsR (at_ q0 t.cost c) t.cost d,basis:=put t.basis i c }:=by unfold pivR; rw [<- hd]
 rw [hP];refine ⟨⟨?_,?_,?_,r2.1,r2.2.1,k2.1⟩,?_⟩
 ·show (rowsR _ _ _ _ _).length=m;rw [Aac,Aj]; exact h.rows
 ·show (put _ _ _).length=m;rw [Aj]; exact h.basis
 ·show (lsR _ _ _).length=N+1;rw [Qx fV]; exact h.cost
 ·have eT:(tabV { t with rows:=rowsR d c i 0 (put t.rows i d),cost:=lsR (at_ q0 t.cost c) t.cost d,basis:=put t.basis i c }).T=(Simp.piv (tabV t) i c).T:=by
   funext i' j;show qv (at_ q0 (at_ [] (rowsR d c i 0 (put t.rows i d)) i') j)=Simp.pivT (tabV t) i c i' j;by_cases bc:i'<m
   ·exact Ya0l
   ·have hn:at_ [] t.rows i'=[]:=Abh (by rw [h.rows]; omega);have z:∀ j,(tabV t).T i' j=0:=fun j=>by
     show qv (at_ q0 (at_ [] t.rows i') j)=0;rw [hn,Pw,Tx]
    have e2:at_ [] (rowsR d c i 0 (put t.rows i d)) i'=[]:=Abh (by rw [Aac,Aj,h.rows]; omega);rw [e2,Pw,Tx];unfold Simp.pivT;rw [if_neg aA,z,z]; grind
  have eC:(tabV { t with rows:=rowsR d c i 0 (put t.rows i d),cost:=lsR (at_ q0 t.cost c) t.cost d,basis:=put t.basis i c }).c=(Simp.piv (tabV t) i c).c:=by
   funext j;show qv (at_ q0 (lsR (at_ q0 t.cost c) t.cost d) j)=_;rw [k2.2,d2.2]; rfl
  have eB:(tabV { t with rows:=rowsR d c i 0 (put t.rows i d),cost:=lsR (at_ q0 t.cost c) t.cost d,basis:=put t.basis i c }).B=(Simp.piv (tabV t) i c).B:=by
   exact Ya1u
  exact Ya2n
theorem As2 {a b:Q} (ha:gW a) (hb:gW b):(cmpW a b<0↔qv a<qv b)/\(cmpW a b=0↔qv a=qv b):=by
 have p1:=ha.pos;have p2:=hb.pos;have r1:(0:Rat)<((a.2:Int):Rat):=Oz.2 p1;have r2:(0:Rat)<((b.2:Int):Rat):=Oz.2 p2;have key:∀ x y:Q,0<x.2->0<y.2->(x.1*y.2<y.1*x.2↔qv x<qv y):=fun x y hx hy=>by
  have s1:(0:Rat)<((x.2:Int):Rat):=Oz.2 hx;have s2:(0:Rat)<((y.2:Int):Rat):=Oz.2 hy;unfold qv;rw [Rat.div_lt_iff s1,<- Rat.intCast_lt_intCast,C7,C7];have e:((y.1:Int):Rat) / ((y.2:Int):Rat)*((x.2:Int):Rat)=(((y.1:Int):Rat)*((x.2:Int):Rat)) / ((y.2:Int):Rat):=aL
  rw [e,Rat.lt_div_iff s2]
 have k1:=key a b p1 p2;have k2:=key b a p2 p1;unfold cmpW;rw [Q3 ha,Q3 hb];unfold cmpZ;constructor
 ·rw [<- k1];split
  ·rename_i h; exact ⟨fun _=>h,fun _=>aA⟩
  ·rename_i h;split
   ·exact ⟨fun h'=>aA,fun h'=>absurd h' h⟩
   ·exact ⟨fun h'=>aA,fun h'=>absurd h' h⟩
 ·split
  ·rename_i h;have:=k1.1 h;exact ⟨fun h'=>aA,fun h'=>Za77⟩
  ·rename_i h;have n1:¬ qv a<qv b:=fun h'=>h (k1.2 h');split
   ·rename_i h2;have:=k2.1 aA;exact ⟨fun h'=>aA,fun h'=>Za77⟩
   ·rename_i h2;have n2:¬ qv b<qv a:=fun h'=>h2 (by have:=k2.2 h'; omega);exact ⟨fun _=>aL,fun _=>rfl⟩
def Afv (N c:Nat) (T:Simp.Tab) (k:Nat):Option Nat->Prop
 | none=>∀ i,i<k->T.T i c<=0
 | some i=>i<k/\0<T.T i c/\∀ i',i'<k->0<T.T i' c->T.T i N / T.T i c<=T.T i' N / T.T i' c/\(T.T i N / T.T i c=T.T i' N / T.T i' c->T.B i<=T.B i')
theorem Anh {t:Tb} (h:TOk gW m N t) {c i:Nat} (hc:c<N+1) (hi:i<m) (hF:Ji Hc m N c (tabV t)) (hp:0<(tabV t).T i c):gW (quoR (Ba t i) c t.cost.length)/\qv (quoR (Ba t i) c t.cost.length)=(tabV t).T i N / (tabV t).T i c:=by
 have bl:=Ep h hi;have hw:=h.rowW _ bl;have g1:=h.okr _ bl _ (Dy (d:=q0) (k:=c) fK);have g2:=h.okr _ bl _ (Dy (d:=q0) (k:=N) (by rw [hw]; omega));unfold quoR;rw [h.cost,Oh];exact Am7 g2 g1 (by show (tabV t).T i c≠0; grind) (hF.quo i hi hp)
theorem Qg {t:Tb} (h:TOk gW m N t) {c:Nat} (hc:c<N+1) (hF:Ji Hc m N c (tabV t)):∀ {l:List (List Q)} {k:Nat} {b:Option Nat},t.rows.drop k=l->k<=m->Afv N c (tabV t) k b->Afv N c (tabV t) m (G0 t c k l b)
 | [],k,b,hl,hk,hb=>by
  exact Ya26
 | r :: l,k,b,hl,hk,hb=>by
  have c9:k<m:=by
   exact Ya0m
  have hd:=A1 (L5 (d:=[]) (l:=t.rows) (k:=k) Za5b);rw [hl] at hd;obtain ⟨hr,hl2⟩:=List.cons.inj hd;have er:r=Ba t k:=hr;have bl:=Ep h c9;have hw:=h.rowW _ bl;have g1:=h.okr _ bl _ (Dy (d:=q0) (k:=c) fK);have p1:=g1.pos;rw [er];unfold G0;by_cases hs:sgn (at_ q0 (Ba t k) c)<=0
  ·rw [if_pos hs];have hn:(tabV t).T k c<=0:=by
    have:¬ 0<qv (at_ q0 (Ba t k) c):=fun h'=>by have:=(Pl p1).2 h'; omega
    show qv (at_ q0 (Ba t k) c)<=0;grind
   refine Qg h hc hF hl2.symm c9 ?_;cases b with
   | none =>
    intro i hi;by_cases e:i=k
    ·subst e; exact hn
    ·exact hb i aA
   | some bi =>
    obtain ⟨b1,b2,b5⟩:=hb;refine ⟨aA,b2,fun i' bc hp=>?_⟩;by_cases e:i'=k
    ·subst e; grind
    ·exact b5 i' aA hp
  ·rw [if_neg hs];have hp:0<(tabV t).T k c:=(Pl p1).1 aA;cases b with
   | none =>
    refine Qg h hc hF hl2.symm c9 ⟨aA,hp,fun i' bc fv=>?_⟩;by_cases e:i'=k
    ·exact Ya0b
    ·have:=hb i' aA; grind
   | some bi =>
    obtain ⟨b1,b2,b5⟩:=hb;have q1:=Anh h hc c9 hF hp;have q2:=Anh h hc (show bi<m by omega) hF b2;obtain ⟨c1,c2⟩:=As2 q1.1 q2.1;rw [q1.2,q2.2] at c1 c2;simp only;generalize cmpW (quoR (Ba t k) c t.cost.length) (quoR (Ba t bi) c t.cost.length)=s at c1 c2 ⊢;have eB:∀ i,at_ 0 t.basis i=(tabV t).B i:=fun _=>rfl;refine Qg h hc hF hl2.symm c9 ?_;unfold W8;rw [eB,eB];by_cases x1:s<0
    ·have hlt:=c1.1 x1;rw [if_pos (by simp [x1])];refine ⟨aA,hp,fun i' bc fv=>?_⟩;by_cases e:i'=k
     ·exact Ya0b
     ·exact Ya47
    ·by_cases x2:s=0
     ·have hz:=c2.1 x2;by_cases x3:(tabV t).B k<(tabV t).B bi
      ·rw [if_pos (by simp [x2,x3])];refine ⟨aA,hp,fun i' bc fv=>?_⟩;by_cases e:i'=k
       ·exact Ya0b
       ·have h5:=b5 i' aA fv;refine ⟨by rw [hz]; exact h5.1,fun h'=>?_⟩;have:=h5.2 (by rw [<- hz]; exact h');omega
      ·rw [if_neg (by simp [x2,x3])];refine ⟨aA,b2,fun i' bc fv=>?_⟩;exact Ya3s
     ·rw [if_neg (by simp [x1,x2])];have hgt:(tabV t).T bi N / (tabV t).T bi c<(tabV t).T k N / (tabV t).T k c:=by
       have n1:¬ ((tabV t).T k N / (tabV t).T k c<(tabV t).T bi N / (tabV t).T bi c):=fun h'=>x1 (c1.2 h');have n2:¬ ((tabV t).T k N / (tabV t).T k c=(tabV t).T bi N / (tabV t).T bi c):=fun h'=>x2 (c2.2 h');grind
      refine ⟨aA,b2,fun i' bc fv=>?_⟩;exact Ya3o
def Asb (m N L:Nat) (t0:Simp.Tab):Prop:=∀ K (R:Simp.Run m N L K),R.t 0=t0->(∀ c,c<L->Ji Hc m N c (R.t K))/\∀ r s,r<m->s<N->(R.t K).T r s≠0->Td Hc m N (R.t K) r s
theorem Agu {M Mc:Nat} {t0:Simp.Tab} (hM:1<=M) (hI:Ints m N M Mc t0) (hX:2*(bndX m M Mc*bndX m M Mc)<10000 ^ 200):Asb m N L t0:=fun K R h0=>by
 exact Ya1k
theorem Qv {t0:Simp.Tab} (hs:Asb m N L t0):∀ (n:Nat) {K:Nat} (R:Simp.Run m N L K) {t:Tb},R.t 0=t0->R.t K=tabV t->TOk gW m N t->N ^ m+1<=n+K ->
  ∃ b t',H5 L n t=some (b,t')/\TOk gW m N t'/\∃ K',∃ R':Simp.Run m N L K',R'.t 0=t0/\R'.t K'=tabV t'/\(b=true->∀ j,j<L->0<=(tabV t').c j)/\(b=false->∃ s,s<L/\(tabV t').c s<0/\∀ i,i<m->(tabV t').T i s<=0)
 | 0,K,R,t,h0,hK,ht,hn=>by have:=R.short; omega
 | n+1,K,R,t,h0,hK,ht,hn=>by
  have a3n:=R.short;have hLN:=R.LN;have fe:=Aei Em ht.okc (n:=L) (k:=0) fF;rw [H5];cases hc:colF t.cost L 0 with
  | none =>
   rw [hc] at fe;exact ⟨true,t,rfl,ht,K,R,h0,hK,fun _ j hj=>fe j (Cl _) aA,fun h=>aR⟩
  | some c =>
   rw [hc] at fe;obtain ⟨-,hcL,hneg,x5⟩:=fe;simp only;have hcN:c<N+1:=aA
   have fj:=hs K R h0;have i8:=Qg ht hcN (by rw [<- hK]; exact fj.1 c aA) (l:=t.rows) (k:=0) (b:=none) rfl (Cl _) (fun i hi=>aA);cases hle:G0 t c 0 t.rows none with
   | none =>
    rw [hle] at i8;exact ⟨false,t,rfl,ht,K,R,h0,hK,fun h=>aR,fun _=>⟨c,aA,hneg,i8⟩⟩
   | some i =>
    rw [hle] at i8;obtain ⟨l1,l2,l5⟩:=i8;simp only;have h0':(tabV t).T i c≠0:=aL
    have ll:Simp.Step m N L (R.t K) i c:=by
     exact Ya1g
    obtain ⟨x1,x2⟩:=Anc ht l1 hcN h0' (by rw [<- hK]; exact fj.2 i c l1 aA (by rw [hK]; exact h0'));refine Qv hs n (R.more ll) (t:=pivR t i c) ?_ ?_ x1 aA
    ·rw [R.more_old ll (Cl _)]; exact h0
    ·rw [R.more_last ll,x2,hK]
end
theorem iQ_g {n:Int} (h:i64 n):gW (iQ n):=Hy h
theorem iQ_v (n:Int):qv (iQ n)=((n:Int):Rat):=by unfold qv iQ; simp only; show _ / ((1:Int):Rat)=_; rw [kL]; grind
theorem Zs {a b:Int} (h:i64 (a - b)):(WW.qF.minus (iQ a) (iQ b)).1=iQ (a - b):=by
 have g:H1 (a - b) 1:=Hy h;obtain ⟨-,h2,h3⟩:=g.fits;show (wn ((qz (a,1)).1*(qz (b,1)).2+-(qz (b,1)).1*(qz (a,1)).2) ((qz (a,1)).2*(qz (b,1)).2)).1=_;have e1:∀ x:Int,qz (x,1)=(x,1):=fun x=>by unfold qz; rw [if_neg (by simp)]
 rw [e1,e1];show (resN (a*1+-b*1) (1*1),resD (a*1+-b*1) (1*1))=_;rw [show a*1+-b*1=a - b by omega,show (1:Int)*1=1 from rfl,h2,h3]; rfl
theorem Aro {α:Type} {d:α} {l r:List α} {j:Nat} : at_ d (l++r) j=if j<l.length then at_ d l j else at_ d r (j - l.length):=by
 unfold at_;rw [Ag,Ag,Ag];split
 ·rename_i h; rw [C3 h]
 ·rename_i h; rw [Fc aA]
theorem Abg {β:Type} {d:β} {n j:Nat} {f:Nat->β} : at_ d ((Cz n).map f) j=if j<n then f j else d:=by
 unfold at_;rw [Ag,Cw];by_cases h:j<n
 ·rw [if_pos h,List.getElem?_range h]; rfl
 ·rw [if_neg h,Cu aD]; rfl
theorem Ub {s:Int} {cs:List (ByteArray × Int)} : ∀ {vs:List ByteArray},(Jb s cs vs).length=2*vs.length
 | []=>rfl
 | v :: vs=>by simp only [Jb,Ch,Ub]; omega
theorem Zv {s:Int} {cs:List (ByteArray × Int)} : ∀ {vs:List ByteArray} {k:Nat},k<vs.length->at_ q0 (Jb s cs vs) (2*k)=iQ (s*Gg cs (at_ ⟨#[]⟩ vs k))/\at_ q0 (Jb s cs vs) (2*k+1)=iQ (-s*Gg cs (at_ ⟨#[]⟩ vs k))
 | [],_,h=>aN
 | v :: vs,0,_=>⟨rfl,rfl⟩
 | v :: vs,k+1,h=>Zv (vs:=vs) aM
theorem V9 {s:Int} {cs:List (ByteArray × Int)} {q:Q} : ∀ {vs:List ByteArray},q ∈ Jb s cs vs->∃ v,q=iQ (s*Gg cs v)\/q=iQ (-s*Gg cs v)
 | [],h=>aR
 | v :: vs,h=>by
  simp only [Jb,Cv] at h;rcases h with h|h|h
  ·exact ⟨v,.inl h⟩
  ·exact ⟨v,.inr h⟩
  ·exact V9 h
theorem Va {v:ByteArray} : ∀ {cs:List (ByteArray × Int)},Gg cs v=0\/∃ c ∈ cs,c.2=Gg cs v
 | []=>.inl rfl
 | c :: cs=>by
  rw [Gg];split
  ·exact .inr ⟨c,Cs ..,rfl⟩
  ·rcases Va (v:=v) (cs:=cs) with h|⟨c',h1,h2⟩
   ·exact .inl h
   ·exact .inr ⟨c',Cp _ h1,h2⟩
def Dist (vars:List ByteArray):Prop:=∀ i j s,nth vars i=some s->nth vars j=some s->i=j
theorem Ag2:∀ {l:List ByteArray},Inc l->Dist l
 | [],_=>fun i j s h _=>bK
 | x :: l,h=>by
  have hp:=Ie.1 h;have ih:=Ag2 hp.2;intro i j s h1 h2;cases i with
  | zero =>
   simp only [nth,A8] at h1;subst h1;cases j with
   | zero=>rfl
   | succ j=>have:=hp.1 x (Ak (l:=l) (i:=j) h2); exact absurd this (jH _)
  | succ i =>
   cases j with
   | zero =>
    simp only [nth,A8] at h2;subst h2;have:=hp.1 x (Ak (l:=l) (i:=i) h1); exact absurd this (jH _)
   | succ j=>have:=ih i j s h1 h2; omega
theorem W1 (l:List RowT):Dist (Bh l):=Ag2 (M5 (Di l)).1
theorem T4 {vars:List ByteArray} (hd:Dist vars) {k:Nat} {v:ByteArray} (hv:nth vars k=some v):∀ {cs:List (ByteArray × Int)},(∀ c ∈ cs,c.1 ∈ vars)->Gg cs v=cofI vars cs k
 | [],_=>rfl
 | c :: cs,h=>by
  have h1:=Vs (h c (Cs ..));rw [Gg,cofI];by_cases e:c.1=v
  ·rw [if_pos (by rw [N3]; simpa using e),if_pos (hd _ _ _ (by rw [<- e]; exact h1) hv)]
  ·rw [if_neg (by rw [N3]; simpa using e),if_neg (fun e2=>e (by rw [e2,hv] at h1; simpa using h1.symm))];exact T4 hd hv fun c' h'=>h c' (Cp _ h')
theorem Aqy (r:RowT):((sgI r:Int):Rat)=sgR r:=by
 unfold sgI sgR;by_cases h:0<r.2.1
 ·rw [if_pos aA,if_pos h]; rfl
 ·rw [if_neg aA,if_neg h]; rfl
theorem Afk {n:Int} {M:Nat} (r:RowT) (h:n.natAbs<=M):(sgI r*n).natAbs<=M/\(-sgI r*n).natAbs<=M:=by
 unfold sgI; split <;> omega
def Ks (vars:List ByteArray) (m i:Nat) (r:RowT) (j:Nat):Rat :=
 if j<2*vars.length then Mh (sgR r) vars r.1 (fun _=>0) j else if j=2*vars.length+m+i then 1 else if j=2*vars.length+i/\r.2.2=false then sgR r else if j=2*vars.length+m+m then -(sgR r*((r.2.1:Int):Rat)) else 0
section
variable {vars:List ByteArray} {m:Nat}
theorem Ua {i:Nat} {r:RowT} : (Jk vars m i r).length=2*vars.length+m+m+1:=by
 unfold Jk;simp only [Cm,Ub,Fj,jJ,O3];omega
theorem Qp {M:Nat} {i:Nat} {r:RowT} (hs:Et M r) {q:Q} (h:q ∈ Jk vars m i r):∃ n:Int,q=iQ n/\n.natAbs<=M:=by
 have h1:=hs.one;unfold Jk at h;rw [C5,C5] at h;rcases h with (h|h)|h
 ·have hc:∀ v,(Gg r.1 v).natAbs<=M:=fun v=>by
   rcases Va (v:=v) (cs:=r.1) with e|⟨c,h1,h2⟩
   ·rw [e]; simp
   ·rw [<- h2]; exact hs.cof c h1
  obtain ⟨v,h|h⟩:=V9 h
  ·exact ⟨_,h,(Afk r (hc v)).1⟩
  ·exact ⟨_,h,(Afk r (hc v)).2⟩
 ·obtain ⟨k,-,rfl⟩:=Ft.1 h;refine ⟨_,rfl,?_⟩;unfold Zu sgI;split
  ·simpa using h1
  ·split
   ·split <;> simpa using h1
   ·simp
 ·rw [Fu.1 h];exact ⟨_,rfl,(Afk r (n:=-r.2.1) (by have:=hs.con; omega)).1⟩
theorem Aha (hd:Dist vars) {i:Nat} (hi:i<m) {r:RowT} (hr:En vars r) {j:Nat} (hj:j<2*vars.length+m+m+1):qv (at_ q0 (Jk vars m i r) j)=Ks vars m i r j:=by
 have hl:(Jb (sgI r) r.1 vars++(Cz (2*m)).map (fun k=>iQ (Zu m i r k))).length=2*vars.length+2*m:=by simp [Ub]
 unfold Jk Ks;rw [Aro,hl];by_cases h1:j<2*vars.length+2*m
 ·rw [if_pos h1,Aro,Ub];by_cases h2:j<2*vars.length
  ·rw [if_pos h2,if_pos h2];rcases iF j with h|h
   ·obtain ⟨k,rfl⟩:∃ k,j=2*k:=⟨j / 2,aA⟩;have hk:k<vars.length:=aA
    have hc:=T4 hd (L5 (d:=⟨#[]⟩) hk) hr.mem;rw [(Zv hk).1,(Hh hr.dis _).1,iQ_v,hc,C7,Aqy]
   ·obtain ⟨k,rfl⟩:∃ k,j=2*k+1:=⟨j / 2,aA⟩;have hk:k<vars.length:=aA
    have hc:=T4 hd (L5 (d:=⟨#[]⟩) hk) hr.mem;rw [(Zv hk).2,(Hh hr.dis _).2,iQ_v,hc,C7,K9,Aqy];grind
  ·rw [if_neg h2,if_neg h2,Abg,if_pos aA,iQ_v];unfold Zu;by_cases h3:j=2*vars.length+m+i
   ·rw [if_pos aA,if_pos h3]; rfl
   ·rw [if_neg aA,if_neg h3];by_cases h4:j=2*vars.length+i/\r.2.2=false
    ·rw [if_pos ⟨aA,h4.2⟩,if_pos h4]; exact Aqy r
    ·rw [if_neg (fun h=>h4 ⟨aA,h.2⟩),if_neg h4,if_neg aA]; rfl
 ·rw [if_neg h1,if_neg aA,if_neg aA,if_neg (fun h=>aA),if_pos aA];have:j - (2*vars.length+2*m)=0:=aA
  rw [this,Aky,iQ_v,C7,K9,Aqy];grind
theorem Qq:∀ {l:List RowT} {i:Nat},(linesR vars m i l).length=l.length
 | [],_=>rfl
 | r :: l,i=>by simp only [linesR,Ch,Qq]
theorem Acy:∀ {l:List RowT} {i k:Nat},k<l.length->at_ [] (linesR vars m i l) k=Jk vars m (i+k) (rwA l k)
 | [],_,_,h=>aN
 | r :: l,i,0,_=>rfl
 | r :: l,i,k+1,h=>by
  have:=Acy (l:=l) (i:=i+1) (k:=k) aM;rw [show i+1+k=i+(k+1) by omega] at this;exact this
theorem Nn {q:List Q} : ∀ {l:List RowT} {i:Nat},q ∈ linesR vars m i l->∃ r ∈ l,∃ k,q=Jk vars m k r
 | [],_,h=>aR
 | r :: l,i,h=>by
  simp only [linesR,Cv] at h;rcases h with h|h
  ·exact ⟨r,Cs ..,i,h⟩
  ·obtain ⟨r',h1,k,h2⟩:=Nn h;exact ⟨r',Cp _ h1,k,h2⟩
theorem Agj {M k:Nat} : ∀ {rows:List (List Q)} {w:Int},(∀ r ∈ rows,∃ z:Int,at_ q0 r k=iQ z/\z.natAbs<=M)->w.natAbs+rows.length*M<=4000000000000000000->∃ v:Int,colR k rows (iQ w)=iQ v/\v.natAbs<=w.natAbs+rows.length*M/\((v:Int):Rat)=((w:Int):Rat) - Simp.sum rows.length fun i=>qv (at_ q0 (at_ [] rows i) k)
 | [],w,_,_=>⟨w,rfl,by simp,by show _=_ - (0:Rat); grind⟩
 | r :: l,w,h,hb=>by
  obtain ⟨z,e,hz⟩:=h r (Cs ..);have hb':w.natAbs+(l.length*M+M)<=4000000000000000000:=by rw [Ch,Oa] at hb; exact hb
  obtain ⟨v,e1,e2,e3⟩:=Agj (k:=k) (rows:=l) (w:=w - z) (fun r' h'=>h r' (Cp _ h')) aA;refine ⟨v,?_,by rw [Ch,Oa]; omega,?_⟩
  ·rw [colR,e,Zs aC]; exact e1
  ·rw [e3,Ch,Simp.sum_head,Aky,e,iQ_v,Tm];simp only [Asz];grind
end
section
variable {vars:List ByteArray} {l:List RowT}
theorem Abj (hd:Dist vars) (hm:l.length<=13) (hr:∀ r ∈ l,En vars r/\Et 1000000000000 r) :
  TOk gW l.length (2*vars.length+l.length+l.length) (Ds l vars)/\Ints l.length (2*vars.length+l.length+l.length) 1000000000000 (l.length*1000000000000) (tabV (Ds l vars)) /\
  Agree l.length (2*vars.length+l.length+l.length) (tabV (Ds l vars)) (Simp.first l.length (2*vars.length+l.length) (fun i=>Ks vars l.length i (rwA l i)) fun i=>Ks vars l.length i (rwA l i) (2*vars.length+l.length+l.length)):=by
 have ho:∀ i,i<l.length->En vars (rwA l i)/\Et 1000000000000 (rwA l i):=fun i hi=>hr _ (Dy (d:=([],0,true)) hi);have az:∀ i,i<l.length->Ba (Ds l vars) i=Jk vars l.length i (rwA l i):=fun i hi=>by
  show at_ [] (linesR vars l.length 0 l) i=_;rw [Acy hi,El]
 have hT:∀ i j,i<l.length->j<2*vars.length+l.length+l.length+1->(tabV (Ds l vars)).T i j=Ks vars l.length i (rwA l i) j:=fun i j hi hj=>by
  show qv (at_ q0 (Ba (Ds l vars) i) j)=_;rw [az i hi]; exact Aha hd hi (ho i hi).1 hj
 have hcell:∀ k,k<2*vars.length+l.length+l.length+1->∀ r ∈ linesR vars l.length 0 l,∃ z:Int,at_ q0 r k=iQ z/\z.natAbs<=1000000000000:=fun k hk r h=>by
  obtain ⟨r',h1,i,rfl⟩:=Nn h;exact Qp (hr r' h1).2 (Dy (by rw [Ua]; exact hk))
 have i9:∀ k,k<2*vars.length+l.length+l.length+1->∃ v:Int,at_ q0 (Ds l vars).cost k=iQ v/\v.natAbs<=1+l.length*1000000000000/\((v:Int):Rat)=(if 2*vars.length+l.length<=k/\k<2*vars.length+l.length+l.length then 1 else 0) - Simp.sum l.length fun i=>Ks vars l.length i (rwA l i) k:=fun k hk=>by
  have hw:∀ b:Prop,[Decidable b]->(if b then (1:Int) else 0).natAbs<=1:=fun b _=>by split <;> decide
  obtain ⟨v,e1,e2,e3⟩:=Agj (k:=k) (rows:=linesR vars l.length 0 l) (w:=if 2*vars.length+l.length<=k/\k<2*vars.length+l.length+l.length then 1 else 0) (hcell k hk) (by
   rw [Qq];have:=hw (2*vars.length+l.length<=k/\k<2*vars.length+l.length+l.length);have:=F2 1000000000000 hm;omega)
  rw [Qq] at e2 e3;refine ⟨v,?_,?_,?_⟩
  ·show at_ q0 ((Cz (2*vars.length+l.length+l.length+1)).map _) k=_;rw [Abg,if_pos hk]; exact e1
  ·have:=hw (2*vars.length+l.length<=k/\k<2*vars.length+l.length+l.length); omega
  ·rw [e3];have e:∀ b:Prop,[Decidable b]->(((if b then (1:Int) else 0):Int):Rat)=if b then 1 else 0:=fun b _=>by split <;> rfl
   rw [e];congr 1;exact Simp.sum_congr fun i hi=>hT i k hi hk
 have hcv:∀ k,k<2*vars.length+l.length+l.length+1->(tabV (Ds l vars)).c k=if k<2*vars.length+l.length then -Simp.sum l.length (fun i=>Ks vars l.length i (rwA l i) k) else if k<2*vars.length+l.length+l.length then 0 else -Simp.sum l.length fun i=>Ks vars l.length i (rwA l i) (2*vars.length+l.length+l.length):=fun k hk=>by
  obtain ⟨v,e1,-,e3⟩:=i9 k hk;show qv (at_ q0 (Ds l vars).cost k)=_;rw [e1,iQ_v,e3];by_cases h1:k<2*vars.length+l.length
  ·rw [if_neg aA,if_pos h1]; grind
  ·rw [if_neg h1];by_cases h2:k<2*vars.length+l.length+l.length
   ·rw [if_pos ⟨aA,h2⟩,if_pos h2];rw [Simp.sum_congr (g:=fun i=>if i=k - (2*vars.length+l.length) then 1 else 0) fun i hi=>?_,Simp.sum_one (f:=fun _=>(1:Rat)) aA]
    ·grind
    ·unfold Ks;rw [if_neg aA];by_cases h3:k=2*vars.length+l.length+i
     ·rw [if_pos h3,if_pos aA]
     ·rw [if_neg h3,if_neg aA,if_neg (fun h=>aA),if_neg aA]
   ·rw [if_neg (fun h=>h2 h.2),if_neg h2,show k=2*vars.length+l.length+l.length by omega]; grind
 refine ⟨⟨Qq,by simp [Ds],by simp [Ds],fun r h=>?_,fun r h q hq=>?_,fun q h=>?_⟩,⟨fun i j hi hj=>?_,fun j hj=>?_⟩,⟨fun i j hi hj=>?_,fun j hj=>?_,fun i hi=>?_⟩⟩
 ·obtain ⟨r',-,i,rfl⟩:=Nn h;exact Ua
 ·obtain ⟨r',h1,i,rfl⟩:=Nn h;obtain ⟨n,rfl,hn⟩:=Qp (hr r' h1).2 hq;exact iQ_g aC
 ·obtain ⟨k,hk,rfl⟩:=Ft.1 h;have hk':=Zk.1 hk;obtain ⟨v,e1,e2,-⟩:=i9 k hk';have e0:at_ q0 (Ds l vars).cost k=Ais (linesR vars l.length 0 l) (2*vars.length+l.length) l.length k:=by
   show at_ q0 ((Cz (2*vars.length+l.length+l.length+1)).map _) k=_;rw [Abg,if_pos hk']
  have:Ais (linesR vars l.length 0 l) (2*vars.length+l.length) l.length k=iQ v:=by rw [<- e0]; exact e1
  show gW (Ais (linesR vars l.length 0 l) (2*vars.length+l.length) l.length k);rw [this];exact iQ_g (by have:=F2 1000000000000 hm; unfold i64; omega)
 ·obtain ⟨n,e,hn⟩:=Qp (vars:=vars) (m:=l.length) (i:=i) (ho i hi).2 (Dy (d:=q0) (k:=j) (l:=Jk vars l.length i (rwA l i)) (by rw [Ua]; exact hj));refine ⟨n,?_,hn⟩;show qv (at_ q0 (Ba (Ds l vars) i) j)=_;rw [az i hi,e,iQ_v]
 ·obtain ⟨v,e1,e2,e3⟩:=i9 j hj;by_cases h1:2*vars.length+l.length<=j/\j<2*vars.length+l.length+l.length
  ·refine ⟨0,?_,by simp⟩;rw [hcv j hj,if_neg aA,if_pos h1.2]; rfl
  ·obtain ⟨w,f1,f2⟩:=Aal (M:=1000000000000) (n:=l.length) (f:=fun i=>Ks vars l.length i (rwA l i) j) fun i hi=>by
    obtain ⟨n,e,hn⟩:=Qp (vars:=vars) (m:=l.length) (i:=i) (ho i hi).2 (Dy (d:=q0) (k:=j) (l:=Jk vars l.length i (rwA l i)) (by rw [Ua]; exact hj));exact ⟨n,by rw [<- Aha hd hi (ho i hi).1 hj,e,iQ_v],hn⟩
   refine ⟨-w,?_,aA⟩;show qv (at_ q0 (Ds l vars).cost j)=_;rw [e1,iQ_v,e3,if_neg h1,f1,K9]; grind
 ·show _=if j<2*vars.length+l.length then _ else if j<2*vars.length+l.length+l.length then (if j=2*vars.length+l.length+i then 1 else 0) else _
  rw [hT i j hi hj];by_cases h1:j<2*vars.length+l.length
  ·rw [if_pos h1]
  ·rw [if_neg h1];by_cases h2:j<2*vars.length+l.length+l.length
   ·rw [if_pos h2];unfold Ks;rw [if_neg aA];by_cases h3:j=2*vars.length+l.length+i
    ·rw [if_pos h3,if_pos h3]
    ·rw [if_neg h3,if_neg h3,if_neg (fun h=>aA),if_neg aA]
   ·rw [if_neg h2,show j=2*vars.length+l.length+l.length by omega]
 ·exact hcv j hj
 ·show at_ 0 ((Cz l.length).map _) i=_;rw [Abg,if_pos hi]; rfl
theorem Agk (hr:∀ r ∈ l,En vars r):Simp.Cols (sysY vars l) (2*vars.length+l.length) (fun i=>sgR (rwA l i)) (fun i=>2*vars.length+i) (fun i=>Ks vars l.length i (rwA l i)) fun i=>Ks vars l.length i (rwA l i) (2*vars.length+l.length+l.length):=by
 have ho:∀ i,i<l.length->En vars (rwA l i):=fun i hi=>hr _ (Dy (d:=([],0,true)) hi);refine ⟨fun i hi=>?_,Ia _ _,fun i k hi hk=>?_,fun i k hi hk=>?_,fun i j hi h1 h2=>?_,fun i hi he=>?_,fun i k hi hk h1 h2 h3=>aA,fun i hi=>?_⟩
 ·unfold sgR; split <;> grind
 ·have hk':k<vars.length:=hk;unfold Ks;rw [if_pos aA];exact (Hh (ho i hi).dis k).1
 ·have hk':k<vars.length:=hk;unfold Ks;rw [if_pos aA];exact (Hh (ho i hi).dis k).2
 ·have ve:2*vars.length<=j:=h1;have bc:i<l.length:=hi;unfold Ks;rw [if_neg aA,if_neg aA];show _=if (rwA l i).2.2=false/\j=2*vars.length+i then _ else 0
  by_cases h:j=2*vars.length+i/\(rwA l i).2.2=false
  ·rw [if_pos h,if_pos (Bu h.2 h.1)]
  ·have hn:¬ ((rwA l i).2.2=false/\j=2*vars.length+i):=fun h'=>h ⟨h'.2,h'.1⟩;rw [if_neg h,if_neg aA,if_neg hn]
 ·have bc:i<l.length:=hi;exact ⟨Ia _ _,aA⟩
 ·have bc:i<l.length:=hi;unfold Ks;rw [if_neg aA,if_neg aA,if_neg (fun h=>aA),if_pos rfl]; rfl
theorem Ab6 (hd:Dist vars) (hm:l.length<=13) (hr:∀ r ∈ l,En vars r/\Et 1000000000000 r) {K:Nat} (hK:(2*vars.length+l.length+l.length) ^ l.length+1<=K) :
  ∃ b t',H5 (2*vars.length+l.length+l.length) K (Ds l vars)=some (b,t')/\TOk gW l.length (2*vars.length+l.length+l.length) t'/\(Gw t'=true↔∃ v,Sat v l):=by
 have bz:∀ r ∈ l,En vars r:=fun r h=>(hr r h).1;obtain ⟨h1,h2,h3⟩:=Abj hd hm hr;have hR:∃ R:Simp.Run l.length (2*vars.length+l.length+l.length) (2*vars.length+l.length+l.length) 0,R.t 0=tabV (Ds l vars) :=
  ⟨Simp.Run.none (h3.fit (Simp.first_fit _ _ _ _)) (Ce _) (fun i hi=>by
   rw [h3.T i _ hi aA];show 0<=if 2*vars.length+l.length+l.length<2*vars.length+l.length then _ else if 2*vars.length+l.length+l.length<2*vars.length+l.length+l.length then _ else _
   rw [if_neg aA,if_neg aA];have h:=Mz (vars:=vars) (l:=l) hi;rw [M1 hi] at h;unfold rowR at h;rw [if_pos aA] at h;show 0<=Ks vars l.length i (rwA l i) (2*vars.length+l.length+l.length);unfold Ks;rw [if_neg aA,if_neg aA,if_neg (fun h=>aA),if_pos rfl]; exact h),rfl⟩
 obtain ⟨R,h0⟩:=hR;obtain ⟨b,t',e1,e2,K',R',e3,e4,e5,e6⟩:=Qv (Agu (M:=1000000000000) (Mc:=l.length*1000000000000) aA h2 (K0 hm rfl)) K R h0 h0 h1 aA;refine ⟨b,t',e1,e2,?_⟩;rw [P8 Em e2,<- Anr bz,<- (Agk bz).solve,<- e4];refine Ah0 R' (by rw [e3]; exact h3) (Ia _ _) ?_;rw [e4];cases b with
 | true=>exact .inl (e5 rfl)
 | false=>exact .inr (e6 rfl)
end
end
section
open Go Go.Proofs.Tryz
set_option maxHeartbeats 8000000
set_option maxRecDepth 100000
section
variable {P:Program} {t:TypeId} {e:List AV} {S:List Ent} {n:Nat} {c:Cap}
theorem Ad8 (h:apT P t=some 4) (hx:e.length=4) (hl:e.all leafOk=true):apO P t (.frz [] .nilc) (.frz [e] c) S n=some (.sref S.length n 0 1 4,S++[⟨n,e⟩],n+1):=by
 have hl:litC 4 (.frz [e] c)=some (1,e):=by simp [litC,hl,Dk,hx]
 exact Ya1p
theorem Apo {id ep len:Nat} {cs:List AV} (h:apT P t=some 4) (hx:e.length=4) (hl:e.all leafOk=true) (hE:entAt S id ep=some cs) (hc:cs.length=len*4) (h0:0<len) (h1:len+1<=1048576):apO P t (.sref id ep 0 len 4) (.frz [e] c) S n=some (.sref id n 0 (len+1) 4,put S id ⟨n,cs++e⟩,n+1):=by
 have hl:litC 4 (.frz [e] c)=some (1,e):=by simp [litC,hl,Dk,hx]
 unfold apO;rw [h]; simp only [hl];rw [if_pos ⟨aA,cZ⟩];simp only [apO2,hE];rw [if_pos ⟨trivial,h0⟩];rw [if_pos ⟨hc,by simp [roomy]; omega⟩]
end
def ohd (id ep:Nat):Nat->AV
 | 0=>.frz [] .nilc
 | k+1=>.sref id ep 0 (k+1) 4
theorem Jz {id ep k:Nat} (h:k≠0):ohd id ep k=.sref id ep 0 k 4:=by cases k with|zero=>exact absurd rfl h|succ k=>rfl
def oent (ep:Nat) (l:List Q):List Ent:=if l=[] then [] else [⟨ep,flat ceW l⟩]
theorem Alx {l:List Q} {q:Q} : flat ceW (l++[q])=flat ceW l++ceW q:=by unfold flat; simp
def Aui (S:List Ent) (tk:List Nat) (ida epa:Nat) (f:Q) (a b:List Q) (r:Rs):Prop :=
 ∃ S' k' id ep,r=(.sref id ep 0 a.length 4,S',tk,k')/\S.length<=S'.length/\(∀ j,j<S.length->nth S' j=nth S j)/\entAt S' id ep=some (flat ceW (lsR f a b))/\((id=ida/\ep=epa)\/S.length<=id)
theorem Aor {f:Q} {a b:List Q} {k:Nat} {x y:Q} (hx:nth a k=some x) (hy:nth b k=some y):zipR f (a.take (k+1)) (b.take (k+1))=zipR f (a.take k) (b.take k)++[(WW.qF.minus x (WW.qF.times f y).1).1]:=by
 induction k generalizing a b with
 | zero =>
  cases a with
  | nil=>simp [nth] at hx
  | cons u a =>
   cases b with
   | nil=>simp [nth] at hy
   | cons v b =>
    simp only [nth,A8] at hx hy;subst hx; subst hy; rfl
 | succ k ih =>
  cases a with
  | nil=>simp [nth] at hx
  | cons u a =>
   cases b with
   | nil=>simp [nth] at hy
   | cons v b =>
    simp only [F7,zipR,Cn];rw [ih (a:=a) (b:=b) hx hy]
section
variable (S:List Ent) (tk:List Nat) (k:Nat)
theorem Yx (ida epa idb epb:Nat) (f:Q) (a b:List Q) (hf:okW f) (hA:entAt S ida epa=some (flat ceW a)) (hB:entAt S idb epb=some (flat ceW b)) (hab:a.length=b.length) (h0:0<a.length) (hW:a.length<=1000000) (ha:okL WW.qF a) (hb:okL WW.qF b) :
  ∃ r,cL prog 39 [.sref ida epa 0 a.length 4,.sref idb epb 0 a.length 4,.agg (ceW f)] S tk k=some r/\Aui S tk ida epa f a b r:=by
 obtain ⟨Φ,hΦ⟩:∃ Φ,Φ=Aui S tk ida epa f a b:=⟨_,rfl⟩;rw [<- hΦ];have hs:=fun S tk k=>M7 S tk k f;refine opM func39 ntmps39 ?_;by_cases h1:sgn f=0
 ·have c1:(sgn f == 0)=true:=aU
  simp (maxSteps:=10^6)+contextual(disch:=try exact dqd)only[evg1,simprocAttr,Cb,Bg,Cc,results39,hs,c1,Al,An,Bx,Bt,tkW,puW,xfs];rw [hΦ];refine ⟨_,_,ida,epa,rfl,by simp,fun j hj=>Ax hj,?_,.inl ⟨rfl,rfl⟩⟩;unfold lsR; rw [if_pos h1];exact Ad hA
 have c1:(sgn f == 0)=false:=aU
 simp (maxSteps:=10^6)+contextual(disch:=try exact dqd)only[evg1,simprocAttr,Cb,Bg,Cc,results39,hs,c1,Al,An,Bx,Bt,tkW,puW,xfs];have hoe:∀ e,oent e (zipR f (a.take 0) (b.take 0))=[]:=fun e=>by simp [oent,zipR]
 refine Dp (P:=prog) (fun x st=>st.T.length=34/\(x.2.2.1<=a.length)/\(x.1=S++[(⟨k,ceW f⟩:Ent)]++oent x.2.2.2 (zipR f (a.take x.2.2.1) (b.take x.2.2.1)))/\getT st.T 0=.sref ida epa 0 a.length 4/\getT st.T 1=.sref idb epb 0 a.length 4/\getT st.T 5=.ref S.length k 0/\getT st.T 7=ohd (S.length+1) x.2.2.2 x.2.2.1/\getT st.T 14=.int (a.length:Nat)/\getT st.T 15=.int (x.2.2.1:Nat)/\st.S=x.1/\st.tk=tk/\st.n=x.2.1) (fun x=>a.length - x.2.2.1) ((S++[(⟨k,ceW f⟩:Ent)]),(k+1),0,0) ?_ ?_;case refine_2=>exact ⟨rfl,Cl _,by rw [hoe,Fy],rfl,rfl,rfl,rfl,rfl,rfl,rfl,rfl,rfl⟩
 rintro ⟨SS,n1,j,e⟩ ⟨T,S',tk',n'⟩ ⟨hl,hj,hSS,e0,e1,e5,e7,e14,e15,eS,eT,eN⟩ IH;simp only at hj hSS e0 e1 e5 e7 e14 e15 eS eT eN;subst eS eT eN;obtain ⟨g,hg,hT⟩:=Au hl;rw [hg] at e0 e1 e5 e7 e14 e15;subst hT;clear hg hl;have b8:∀ x:Ent,(S++[x]).length=S.length+1:=fun x=>by simp
 have hzl:(zipR f (a.take j) (b.take j)).length=j:=by rw [Aat (by simp [hab])]; simp; omega
 by_cases xv:j<a.length
 ·have c2:decide ((j:Int)<(a.length:Int))=true:=gT
  have hjw:Ca.wrap ((j:Int)+1)=((j+1:Nat):Int):=aK
  obtain ⟨x,hx⟩:=Af xv;obtain ⟨y,hy⟩:=Af (show j<b.length by omega);have ox:=ha x (Ak hx);have oy:=hb y (Ak hy);have d9:=Ap (ce:=ceW) Al hx;have hyt:=Ap (ce:=ceW) Al hy;have jw:=Aor (f:=f) hx hy;obtain ⟨p,hp⟩:∃ p,p=(WW.qF.times f y).1:=⟨_,rfl⟩;have op:okW p:=by rw [hp]; exact WW.Dj.times _ _ hf oy
  obtain ⟨d,hd⟩:∃ d,d=(WW.qF.minus x p).1:=⟨_,rfl⟩;have od:okW d:=by rw [hd]; exact WW.Dj.minus _ _ ox op
  rw [<- hp,<- hd] at jw;have hM:=fun S tk k=>Asj S tk k f y hf oy;have hD:=fun S tk k=>Yy S tk k x p ox op;rw [<- hp] at hM;rw [<- hd] at hD;have eA:entAt S' ida epa=some (flat ceW a):=by rw [hSS,Fa]; exact Ad hA
  have eB:entAt S' idb epb=some (flat ceW b):=by rw [hSS,Fa]; exact Ad hB
  have eF:entAt S' S.length k=some (ceW f):=by rw [hSS]; exact Ad Az
  have cd:apT prog 54=some 4:=aI
  by_cases oj:j=0
  ·have a4l:S'=S++[(⟨k,ceW f⟩:Ent)]:=by rw [hSS,oj,hoe,Fy]
   have ew:∀ c S n,apO prog 54 (.frz [] .nilc) (.frz [ceW d] c) S n=some (.sref S.length n 0 (j+1) 4,S++[⟨n,ceW d⟩],n+1):=fun c S n=>by rw [oj]; exact Ad8 cd (Al d) (An d)
   rw [show ohd (S.length+1) e j=.frz [] .nilc by rw [oj]; rfl] at e7;have wl:S'.length=S.length+1:=by rw [a4l,b8]
   simp (maxSteps:=10^6)+contextual(disch:=try exact dqd)only[evg1,simprocAttr,Cb,Bg,Cc,results39,e0,e1,e5,e7,e14,e15,c2,hjw,xv,eA,eB,eF,d9,hyt,hM,hD,ew,wl,Al,An,Bx,Bt,tkW,puW,xfs];have jh:zipR f (a.take (j+1)) (b.take (j+1))=[d]:=by rw [jw,oj]; rfl
   exact IH (S'++[(⟨n',ceW d⟩:Ent)],n'+1,j+1,n') _ aF ⟨rfl,aE,by rw [jh,a4l]; simp [oent,flat],bJ⟩
  ·have a3p:zipR f (a.take j) (b.take j)≠[]:=fun h=>by rw [h] at hzl; simp at hzl; omega
   have a3q:oent e (zipR f (a.take j) (b.take j))=[⟨e,flat ceW (zipR f (a.take j) (b.take j))⟩]:=if_neg a3p;rw [a3q] at hSS;rw [Jz oj] at e7;have eO:entAt S' (S.length+1) e=some (flat ceW (zipR f (a.take j) (b.take j))):=by rw [hSS]; exact Am (b8 _)
   have ew:=fun c n=>Apo (S:=S') (n:=n) (c:=c) (id:=S.length+1) (ep:=e) (len:=j) cd (Al d) (An d) eO (by rw [Vn Al,hzl]) aA aA;simp (maxSteps:=10^6)+contextual(disch:=try exact dqd)only[evg1,simprocAttr,Cb,Bg,Cc,results39,e0,e1,e5,e7,e14,e15,c2,hjw,xv,eA,eB,eF,d9,hyt,hM,hD,ew,Al,An,Bx,Bt,tkW,puW,xfs];have jh:oent n' (zipR f (a.take (j+1)) (b.take (j+1)))=[⟨n',flat ceW (zipR f (a.take j) (b.take j))++ceW d⟩]:=by rw [jw]; unfold oent; rw [if_neg (by simp),Alx]
   exact IH (put S' (S.length+1) ⟨n',flat ceW (zipR f (a.take j) (b.take j))++ceW d⟩,n'+1,j+1,n') _ aF ⟨rfl,aE,by rw [jh,hSS,B7 (b8 _)],bJ⟩
 ·have c2:decide ((j:Int)<(a.length:Int))=false:=gT
  have vw:j=a.length:=aA
  subst vw;rw [Fm,hab,Fm] at hSS;rw [Jz aA] at e7;simp (maxSteps:=10^6)+contextual(disch:=try exact dqd)only[evg1,simprocAttr,Cb,Bg,Cc,results39,e0,e1,e5,e7,e14,e15,c2];have a3p:zipR f a b≠[]:=fun h=>by
   have:=Aat (f:=f) hab;rw [h] at this; simp at this; omega
  have a3q:oent e (zipR f a b)=[⟨e,flat ceW (zipR f a b)⟩]:=if_neg a3p;rw [a3q] at hSS;rw [hΦ,hSS];refine ⟨_,_,S.length+1,e,rfl,by simp,fun j hj=>?_,?_,.inr aA⟩
  ·rw [Ax (by rw [b8]; omega),Ax hj]
  ·unfold lsR; rw [if_neg h1];exact Am (b8 _)
end
end
section
open Go
structure AptR (I:TI):Prop where
 tr:I.it≠I.ir
 tc:I.it≠I.ic
 tb:I.it≠I.ib
 rc:I.ir≠I.ic
 rb:I.ir≠I.ib
 cb:I.ic≠I.ib
 row:∀ p ∈ I.ids,p.1≠I.it/\p.1≠I.ir/\p.1≠I.ic/\p.1≠I.ib
 rows:∀ i j p q,nth I.ids i=some p->nth I.ids j=some q->i≠j->p.1≠q.1
structure RTab (S:List Ent) (I:TI) (t:Tb) (vars:List ByteArray) (m:Nat) (c:Cap):Prop where
 top:entAt S I.it I.et=some [.sref I.ir I.er 0 t.rows.length 1,.sref I.ib I.eb 0 t.rows.length 1,.sref I.ic I.ec 0 t.cost.length 4,.frz (vars.map strC) .unk,.frz (t.flip.map De) c,intA m]
 nids:I.ids.length=t.rows.length
 rowsE:entAt S I.ir I.er=some (I.ids.map (da t.cost.length 4))
 rowE:∀ i p r,nth I.ids i=some p->nth t.rows i=some r->entAt S p.1 p.2=some (flat ceW r)
 rowW:∀ r ∈ t.rows,r.length=t.cost.length
 costE:entAt S I.ic I.ec=some (flat ceW t.cost)
 basisE:entAt S I.ib I.eb=some (t.basis.map intA)
 nb:t.basis.length=t.rows.length
 ap:AptR I
 okr:∀ r ∈ t.rows,okL WW.qF r
 okc:okL WW.qF t.cost
 bigW:t.cost.length<=1000000
 bigM:t.rows.length<=1000000
 posM:0<t.rows.length
 posW:0<t.cost.length
def OutR (I:TI) (j:Nat):Prop:=j≠I.it/\j≠I.ir/\j≠I.ic/\j≠I.ib/\∀ p ∈ I.ids,j≠p.1
section
variable {S S':List Ent} {I:TI} {t:Tb} {vars:List ByteArray} {m:Nat} {c:Cap}
theorem RTab.lt (h:RTab S I t vars m c):I.it<S.length/\I.ir<S.length/\I.ic<S.length/\I.ib<S.length/\∀ p ∈ I.ids,p.1<S.length:=by
 refine ⟨Aw h.top,Aw h.rowsE,Aw h.costE,Aw h.basisE,fun p hp=>?_⟩;exact Yav
theorem RTab.out (h:RTab S I t vars m c) {j:Nat} (hj:S.length<=j):OutR I j:=by
 obtain ⟨h1,h2,h3,h4,h5⟩:=h.lt;exact ⟨aA,aA,aA,aA,fun p hp=>by have:=h5 p hp; omega⟩
theorem RTab.frame (h:RTab S I t vars m c) (hS:∀ j,j<S.length->¬ OutR I j->nth S' j=nth S j):RTab S' I t vars m c:=by
 obtain ⟨h1,h2,h3,h4,h5⟩:=h.lt;have k1:=hS I.it h1 fun h=>h.1 rfl;have k2:=hS I.ir h2 fun h=>h.2.1 rfl;have k3:=hS I.ic h3 fun h=>h.2.2.1 rfl;have k4:=hS I.ib h4 fun h=>h.2.2.2.1 rfl;have k5:∀ p ∈ I.ids,nth S' p.1=nth S p.1:=fun p hp=>hS p.1 (h5 p hp) fun h=>h.2.2.2.2 p hp rfl;exact ⟨by rw [Aa k1]; exact h.top,h.nids,by rw [Aa k2]; exact h.rowsE,fun i p r hp hr=>by rw [Aa (k5 p (Ak hp))]; exact h.rowE i p r hp hr,h.rowW,by rw [Aa k3]; exact h.costE,by rw [Aa k4]; exact h.basisE,h.nb,h.ap,h.okr,h.okc,h.bigW,h.bigM,h.posM,h.posW⟩
theorem RTab.app (h:RTab S I t vars m c) (L:List Ent):RTab (S++L) I t vars m c:=h.frame fun j hj _=>Ax hj
theorem RTab.row (h:RTab S I t vars m c) {i:Nat} {p:Nat × Nat} {r':List Q} (hp:nth I.ids i=some p) (hi:i<t.rows.length) (hl:r'.length=t.cost.length) (ho:okL WW.qF r') (hS:∀ j,j≠p.1->j<S.length->nth S' j=nth S j) (he:entAt S' p.1 p.2=some (flat ceW r')) :
  RTab S' I { t with rows:=put t.rows i r' } vars m c:=by
 obtain ⟨h1,h2,h3,h4,h5⟩:=h.lt;have mj:=h.ap.row p (Ak hp);have key:∀ j e,j≠p.1->j<S.length->entAt S' j e=entAt S j e:=fun j e a b=>Aa (hS j a b);refine ⟨?_,by rw [Aj]; exact h.nids,?_,fun j q r hq ae=>?_,fun r ae=>?_,?_,?_,Za64,h.ap,fun r ae=>?_,h.okc,h.bigW,by rw [Aj]; exact h.bigM,by rw [Aj]; exact h.posM,h.posW⟩
 ·rw [key _ _ mj.1.symm h1,Aj]; exact h.top
 ·rw [key _ _ mj.2.1.symm h2]; exact h.rowsE
 ·rw [Kt hi] at ae;by_cases e:j=i
  ·exact Ya1t
  ·rw [if_neg e] at ae;rw [key _ _ (h.ap.rows j i q p hq hp e) (h5 q (Ak hq))];exact Ya2p
 ·exact Ya24
 ·rw [key _ _ mj.2.2.1.symm h3]; exact h.costE
 ·rw [key _ _ mj.2.2.2.symm h4]; exact h.basisE
 ·rcases Bk ae with rfl|ae
  ·exact ho
  ·exact h.okr r ae
theorem RTab.setRow (h:RTab S I t vars m c) {i:Nat} {q:Nat × Nat} {r':List Q} (hi:i<t.rows.length) (hl:r'.length=t.cost.length) (ho:okL WW.qF r') (hq:nth I.ids i=some q\/OutR I q.1) (he:entAt S q.1 q.2=some (flat ceW r')) :
  RTab (put S I.ir ⟨I.er,put (I.ids.map (da t.cost.length 4)) i (da t.cost.length 4 q)⟩) { I with ids:=put I.ids i q } { t with rows:=put t.rows i r' } vars m c:=by
 obtain ⟨h1,h2,h3,h4,h5⟩:=h.lt;have hii:i<I.ids.length:=by rw [h.nids]; exact hi
 have x6:q.1≠I.it/\q.1≠I.ir/\q.1≠I.ic/\q.1≠I.ib:=by
  rcases hq with hq|hq
  ·exact h.ap.row q (Ak hq)
  ·exact ⟨hq.1,hq.2.1,hq.2.2.1,hq.2.2.2.1⟩
 have hqd:∀ j p,j≠i->nth I.ids j=some p->p.1≠q.1:=fun j p hj hp=>by
  rcases hq with hq|hq
  ·exact h.ap.rows j i p q hp hq hj
  ·exact (hq.2.2.2.2 p (Ak hp)).symm
 refine ⟨?_,by simp only [Aj]; exact h.nids,?_,fun j p r hp ae=>?_,fun r ae=>?_,?_,?_,by simp only [Aj]; exact h.nb,⟨h.ap.tr,h.ap.tc,h.ap.tb,h.ap.rc,h.ap.rb,h.ap.cb,fun p hp=>?_,fun a b p p' ha hb hab=>?_⟩,fun r ae=>?_,h.okc,h.bigW,by simp only [Aj]; exact h.bigM,by simp only [Aj]; exact h.posM,h.posW⟩
 ·rw [Ah h.ap.tr.symm]; simp only [Aj]; exact h.top
 ·rw [Ae h2,<- Pj]
 ·have fv:nth (put I.ids i q) j=some p:=hp;rw [Kt hii] at fv;rw [Kt hi] at ae;by_cases e:j=i
  ·rw [if_pos e] at fv ae;simp only [A8] at fv ae;subst fv; subst ae;rw [Ah x6.2.1.symm]; exact he
  ·rw [if_neg e] at fv ae;rw [Ah (h.ap.row p (Ak fv)).2.1.symm]; exact h.rowE j p r fv ae
 ·exact Ya24
 ·rw [Ah h.ap.rc]; exact h.costE
 ·rw [Ah h.ap.rb]; exact h.basisE
 ·rcases Bk hp with rfl|hp
  ·exact x6
  ·exact h.ap.row p hp
 ·have ha':nth (put I.ids i q) a=some p:=ha;have hb':nth (put I.ids i q) b=some p':=hb;rw [Kt hii] at ha' hb';by_cases e:a=i
  ·rw [if_pos e] at ha';rw [if_neg (fun e2=>hab (e.trans e2.symm))] at hb';simp only [A8] at ha';subst ha';exact (hqd b p' (fun e2=>hab (e.trans e2.symm)) hb').symm
  ·rw [if_neg e] at ha';by_cases e2:b=i
   ·rw [if_pos e2] at hb';simp only [A8] at hb';subst hb';exact hqd a p e ha'
   ·rw [if_neg e2] at hb';exact h.ap.rows a b p p' ha' hb' hab
 ·rcases Bk ae with rfl|ae
  ·exact ho
  ·exact h.okr r ae
theorem RTab.setCost (h:RTab S I t vars m c) {q:Nat × Nat} {k':List Q} (hl:k'.length=t.cost.length) (ho:okL WW.qF k') (hq:q=(I.ic,I.ec)\/OutR I q.1) (he:entAt S q.1 q.2=some (flat ceW k')) :
  RTab (put S I.it ⟨I.et,[.sref I.ir I.er 0 t.rows.length 1,.sref I.ib I.eb 0 t.rows.length 1,.sref q.1 q.2 0 t.cost.length 4,.frz (vars.map strC) .unk,.frz (t.flip.map De) c,intA m]⟩) { I with ic:=q.1,ec:=q.2 } { t with cost:=k' } vars m c:=by
 obtain ⟨h1,h2,h3,h4,h5⟩:=h.lt;have x6:q.1≠I.it/\I.ir≠q.1/\q.1≠I.ib/\∀ p ∈ I.ids,p.1≠q.1:=by
  rcases hq with rfl|hq
  ·exact ⟨h.ap.tc.symm,h.ap.rc,h.ap.cb,fun p hp=>(h.ap.row p hp).2.2.1⟩
  ·exact ⟨hq.1,hq.2.1.symm,hq.2.2.2.1,fun p hp=>(hq.2.2.2.2 p hp).symm⟩
 refine ⟨?_,h.nids,?_,fun j p r hp hr=>?_,fun r hr=>by rw [hl]; exact h.rowW r hr,?_,?_,h.nb,⟨h.ap.tr,x6.1.symm,h.ap.tb,x6.2.1,h.ap.rb,x6.2.2.1,fun p hp=>?_,h.ap.rows⟩,h.okr,ho,by rw [hl]; exact h.bigW,h.bigM,h.posM,by rw [hl]; exact h.posW⟩
 ·rw [Ae h1,hl]
 ·rw [Ah h.ap.tr,hl]; exact h.rowsE
 ·rw [Ah (h.ap.row p (Ak hp)).1.symm]; exact h.rowE j p r hp hr
 ·rw [Ah x6.1.symm]; exact he
 ·rw [Ah h.ap.tb]; exact h.basisE
 ·have:=h.ap.row p hp;exact ⟨this.1,this.2.1,x6.2.2.2 p hp,this.2.2.2⟩
theorem RTab.setBasis (h:RTab S I t vars m c) {i b:Nat} : RTab (put S I.ib ⟨I.eb,(put t.basis i b).map intA⟩) I { t with basis:=put t.basis i b } vars m c:=by
 obtain ⟨h1,h2,h3,h4,h5⟩:=h.lt;refine ⟨?_,h.nids,?_,fun j p r hp hr=>?_,h.rowW,?_,Ae h4,by simp only [Aj]; exact h.nb,h.ap,h.okr,h.okc,h.bigW,h.bigM,h.posM,h.posW⟩
 ·rw [Ah h.ap.tb.symm]; exact h.top
 ·rw [Ah h.ap.rb.symm]; exact h.rowsE
 ·rw [Ah (h.ap.row p (Ak hp)).2.2.2.symm]; exact h.rowE j p r hp hr
 ·rw [Ah h.ap.cb.symm]; exact h.costE
def RetR (S:List Ent) (tk:List Nat) (I:TI) (t':Tb) (vars:List ByteArray) (m:Nat) (c:Cap) (v:AV) (r:Rs):Prop :=
 ∃ S' k' I',r=(v,S',tk,k')/\S.length<=S'.length/\RTab S' I' t' vars m c/\I'.it=I.it/\I'.et=I.et/\∀ j,j<S.length->OutR I j->nth S' j=nth S j/\OutR I' j
end
end
section
open Go Go.Proofs.Tryz
set_option maxHeartbeats 8000000
set_option maxRecDepth 100000
theorem ext_mvK (f:FuncId) (h:CkF (mvF0 f)):Ext.mv prog f=false:=h.h
theorem ext_mvT (f:FuncId) (h:CkT (mvF0 f)):Ext.mv prog f=true:=h.h
set_option linter.defProp false in
def evgm:=Bu @Ard <| Bu @Arc <| Bu @Afu <| Bu @Aft <| Bu ext_mvK <| Bu ext_mvT evs0
set_option linter.defProp false in
def evm:=Bu ext_mvK <| Bu ext_mvT ev0
theorem Av8 {P:Program} {all:List Oper} {d:Option Tmp} {T:List AV} {S S':List Ent} {t:TypeId} {a e:Tmp} {x v:AV} (hL:loadsB all d=[(t,.tmp a,some e,true)]) (h2:S.length<=S'.length) (he:decide (e<T.length)=true) (ha:getT T a=x) (hv:getT T e=v) (h:ldA P t x S'=some v):reA P all d T S S'=some () :=
 Ahs hL h2 fun q hq=>by
  simp only [Fu] at hq; subst hq;exact ⟨rfl,e,rfl,of_decide_eq_true he,by show ldA P t (opv T (.tmp a)) S'=_; rw [show opv T (.tmp a)=getT T a from rfl,ha,hv]; exact h⟩
theorem Avv {b:Q} (hb:okW b) {l:List Q} (h:okL WW.qF l):okL WW.qF (ovR b l):=by
 intro q hq;obtain ⟨x,hx,rfl⟩:=Ft.1 hq;exact WW.Dj.over _ _ (h x hx) hb
theorem Aoq {f:Q} (hf:okW f):∀ {l r:List Q},okL WW.qF l->okL WW.qF r->okL WW.qF (zipR f l r)
 | [],_,_,_=>fun q hq=>by simp [zipR] at hq
 | _ :: _,[],_,_=>fun q hq=>by simp [zipR] at hq
 | x :: l,y :: r,h,h'=>by
  intro q hq;simp only [zipR,Cv] at hq;rcases hq with rfl|hq
  ·exact WW.Dj.minus _ _ (h _ (by simp)) (WW.Dj.times _ _ hf (h' _ (by simp)))
  ·exact Aoq hf (fun q hq=>h q bN) (fun q hq=>h' q bN) q hq
theorem Ams {f:Q} (hf:okW f) {l r:List Q} (h:okL WW.qF l) (h':okL WW.qF r):okL WW.qF (lsR f l r):=by
 unfold lsR; split
 ·exact h
 ·exact Aoq hf h h'
section
variable (S:List Ent) (tk:List Nat) (k:Nat)
theorem Aa6 (I:TI) (t:Tb) (vars:List ByteArray) (m:Nat) (cc:Cap) (i c:Nat) (ag:RTab S I t vars m cc) (hi:i<t.rows.length) (hc:c<t.cost.length) :
  ∃ r,cL prog 63 [.ref I.it I.et 0,.int i,.int c] S tk k=some r/\RetR S tk I (pivR t i c) vars m cc (.tup []) r:=by
 obtain ⟨Φ,hΦ⟩:∃ Φ,Φ=RetR S tk I (pivR t i c) vars m cc (.tup []):=⟨_,rfl⟩;rw [<- hΦ];obtain ⟨row,az⟩:=Af hi;obtain ⟨pi,gv⟩:=Af (show i<I.ids.length by rw [ag.nids]; exact hi);have iw:=ag.rowW row (Ak az);have ii:=ag.okr row (Ak az);obtain ⟨b,hb⟩:=Af (show c<row.length by omega);have ob:okW b:=ii b (Ak hb);have aa:=ag.top;have kn:=ag.rowsE;have j4:nth (I7 i (I.ids.map (da t.cost.length 4))) 0=some (.sref pi.1 pi.2 0 t.cost.length 4):=Bd (by rw [Ag] at gv ⊢; rw [Cw,gv]; rfl);have sb:=Ap (ce:=ceW) Al hb;have b9:=ag.rowE i pi row gv az;refine opM func63 ntmps63 ?_;simp (maxSteps:=10^6)+contextual(disch:=try exact dqd)only[evgm,simprocAttr,Cb,Bg,Cc,results63,aa,kn,j4,sb,b9,hi,hc,C9,intA,Al,An,ovW];have hW:=ag.bigW;have hM:=ag.bigM;have y3:=ag.lt;have mj:=ag.ap.row pi (Ak gv);have tq:=Wg az;have eT:({ t with rows:=t.rows } : Tb)=t:=rfl;refine Dp (P:=prog) (fun x st=>st.T.length=124/\(ovR b row=x.2.2.1++ovR b x.2.2.2)/\(x.2.2.1.length+x.2.2.2.length=t.cost.length)/\(RTab x.1 I { t with rows:=put t.rows i (x.2.2.1++x.2.2.2) } vars m cc)/\(entAt x.1 S.length k=some (ceW b))/\(x.1.length=S.length+1)/\(∀ j,j<S.length->OutR I j->nth x.1 j=nth S j)/\(okL WW.qF x.2.2.2)/\getT st.T 0=.ref I.it I.et 0/\getT st.T 1=.int (i:Nat)/\getT st.T 2=.int (c:Nat)/\getT st.T 6=.ref S.length k 0/\getT st.T 26=.int (t.cost.length:Nat)/\getT st.T 27=.int (x.2.2.1.length:Nat)/\st.S=x.1/\st.tk=tk/\st.n=x.2.1) (fun x=>x.2.2.2.length) ((S++[⟨k,ceW b⟩]),(k+1),([]:List Q),row) ?_ ?_;case refine_2=>exact ⟨rfl,by simp,by simpa using iw,by simp only [Cq,tq]; exact ag.app _,Am rfl,by simp,fun j hj _=>Ax hj,ii,rfl,rfl,rfl,rfl,rfl,rfl,rfl,rfl,rfl⟩
 rintro ⟨SS,n1,p,u⟩ ⟨T,S',tk',n'⟩ ⟨hl,hR,kt,hT,y4,cn,am,ou,e0,e1,e2,e6,e26,e27,eS,eT,eN⟩ IH;simp only at hR kt hT y4 cn am ou e0 e1 e2 e6 e26 e27 eS eT eN;subst eS eT eN;obtain ⟨g,hg,hT⟩:=Au hl;rw [hg] at e0 e1 e2 e6 e26 e27;subst hT;clear hg hl;by_cases dj:p.length<t.cost.length
 ·have c1:decide ((p.length:Int)<(t.cost.length:Int))=true:=bW
  obtain ⟨a0,u,rfl⟩:∃ a0 u',u=a0 :: u':=by
   exact Ya3x
  have oa0:=ou a0 (by simp);have ui:=Ap (ce:=ceW) Al (Ej (p:=p) (u:=u) (x:=a0));have yk:nth (put t.rows i (p++a0 :: u)) i=some (p++a0 :: u):=Bw hi;have he:=hT.rowE i pi _ gv yk;have ff:=hT.rowsE;have cj:=hT.top;have vj:u.length<(a0 :: u).length:=by simp
  obtain ⟨y,hy⟩:∃ y,y=(WW.qF.over a0 b).1:=⟨_,rfl⟩;have oy:okW y:=by rw [hy]; exact WW.Dj.over _ _ oa0 ob
  have hD:=fun S tk k=>Ad2 S tk k a0 b oa0 ob;rw [<- hy] at hD;have hw:Ca.wrap ((p.length:Int)+1)=(((p++[y]).length:Nat):Int):=bI
  have ho:=A5 (ce:=ceW) Al (l:=p++a0 :: u) (k:=p.length) (q':=y) (by simp);rw [Ev] at ho;have io:∀ x,Ib S'.length (put S' pi.1 x)=put S' pi.1 x:=fun x=>C6 (by simp [Ai]);simp (maxSteps:=10^6)+contextual(disch:=try exact dqd)only[evgm,simprocAttr,Cb,Bg,Cc,results63,e0,e1,e2,e6,e26,e27,c1,io,hw,cj,ff,j4,he,ui,y4,dj,hi,hD,ho,C9,Al,An,Bx,Bt,tkW,puW,Aj];have ba:=hT.row (S':=put S' pi.1 ⟨pi.2,flat ceW (p++y :: u)⟩) (r':=p++y :: u) gv (by simp only [Aj]; exact hi) Za1q (fun q hq=>by
   rcases C5.1 hq with h|h
   ·exact hT.okr _ (Ak yk) q bO
   ·rcases Cv.1 h with rfl|h
    ·exact oy
    ·exact ou q bO) (fun j h1 h2=>Ab (Ih h1)) (Ae (Aw he))
  simp only [Ms] at ba;have hpS:pi.1<S.length:=y3.2.2.2.2 pi (Ak gv);exact IH (put S' pi.1 ⟨pi.2,flat ceW (p++y :: u)⟩,n',p++[y],u) _ aF ⟨rfl,by rw [hR]; simp only [ovR,Ct,<- hy,Fa,Cn,Cq],by show (p++[y]).length+u.length=t.cost.length; simp only [Cm,Ch,Co] at kt ⊢; omega,by simp only [Fa,Cn,Cq]; exact ba,by rw [Ah aE]; exact y4,by rw [Ai]; exact cn,fun j h1 h2=>by rw [Ab (Ih (h2.2.2.2.2 pi (Ak gv)))]; exact am j h1 h2,fun q hq=>ou q bN,aP⟩
 ·have c1:decide ((p.length:Int)<(t.cost.length:Int))=false:=bW
  have hu0:u=[]:=C4.1 aA;subst hu0;simp only [ovR,Ei] at hR;simp only [Fy,Co,I5] at hR kt hT;have a0s:pivR t i c={ t with rows:=rowsR p c i 0 (put t.rows i p),cost:=lsR (at_ q0 t.cost c) t.cost p,basis:=put t.basis i c }:=by
   have:ovR b row=p:=hR;unfold pivR Ba;rw [Av az,Av hb,this]
  have op:okL WW.qF p:=by have:=Avv ob ii; rw [show ovR b row=p from hR] at this; exact this
  have j7:=hT.top;simp only [Aj] at j7;simp (maxSteps:=10^6)+contextual(disch:=try exact dqd)only[evgm,simprocAttr,Cb,Bg,Cc,results63,e0,e1,e2,e6,e26,e27,c1,j7];refine Dp (P:=prog) (fun x st=>st.T.length=124/\(rowsR p c i 0 (put t.rows i p)=x.2.2.1++rowsR p c i x.2.2.1.length x.2.2.2.1)/\(x.2.2.1.length+x.2.2.2.1.length=t.rows.length)/\(RTab x.1 x.2.2.2.2 { t with rows:=x.2.2.1++x.2.2.2.1 } vars m cc)/\(nth (x.2.2.1++x.2.2.2.1) i=some p)/\(nth x.2.2.2.2.ids i=some pi)/\(x.2.2.2.2.it=I.it/\x.2.2.2.2.et=I.et)/\(S.length<=x.1.length)/\(∀ j,j<S.length->OutR I j->nth x.1 j=nth S j/\OutR x.2.2.2.2 j)/\getT st.T 0=.ref I.it I.et 0/\getT st.T 1=.int (i:Nat)/\getT st.T 2=.int (c:Nat)/\getT st.T 56=.int (t.rows.length:Nat)/\getT st.T 57=.int (x.2.2.1.length:Nat)/\st.S=x.1/\st.tk=tk'/\st.n=x.2.1) (fun x=>x.2.2.2.1.length) (S',n',([]:List (List Q)),(put t.rows i p),I) ?_ ?_;case refine_2=>exact ⟨rfl,by simp,by simp [Aj],by simp only [Cq]; exact hT,Za46,gv,⟨rfl,rfl⟩,by show S.length<=S'.length; omega,fun j h1 h2=>⟨am j h1 h2,h2⟩,rfl,rfl,rfl,rfl,rfl,rfl,rfl,rfl⟩
  rintro ⟨SS,n1,P,U,J⟩ ⟨T,S',tk',n'⟩ ⟨hl,fi,d7,ai,bl,hJi,hJ,rh,jy,e0,e1,e2,e56,e57,eS,eT,eN⟩ IH;simp only at fi d7 ai bl hJi hJ rh jy e0 e1 e2 e56 e57 eS eT eN;subst eS eT eN;obtain ⟨g,hg,hT⟩:=Au hl;rw [hg] at e0 e1 e2 e56 e57;subst hT;clear hg hl;obtain ⟨kx,ma⟩:=hJ;have hJn:=ai.nids;simp only [Cm,d7] at hJn;have du:=ai.top;simp only [Cm,d7,kx,ma] at du;have ri:=ai.rowsE;have o7:=ai.rowE i pi p hJi bl;have a1m:=ai.lt;by_cases cq:P.length<t.rows.length
  ·have c2:decide ((P.length:Int)<(t.rows.length:Int))=true:=bX
   obtain ⟨r0,U,rfl⟩:∃ r0 U',U=r0 :: U':=by
    exact Ya3y
   have vj:U.length<(r0 :: U).length:=by simp
   have hw2:∀ z:List Q,Ca.wrap ((P.length:Int)+1)=(((P++[z]).length:Nat):Int):=fun z=>bI
   by_cases qq:P.length=i
   ·have c3:((P.length:Int) != (i:Int))=false:=by rw [qq]; simp
    have hw3:=hw2 r0;simp (maxSteps:=10^6)+contextual(disch:=try exact dqd)only[evgm,simprocAttr,Cb,Bg,Cc,results63,e0,e1,e2,e56,e57,c2,c3,hw3,C9];exact IH (S',n',P++[r0],U,J) _ aF ⟨rfl,by rw [fi]; simp only [rowsR,if_pos qq,Fa,Cn,Cq,Cm,Ch,Co,El],Za08,by simpa using ai,by simpa using bl,hJi,⟨kx,ma⟩,rh,jy,aP⟩
   ·have c3:((P.length:Int) != (i:Int))=true:=aD
    obtain ⟨pk,d6⟩:=Af (show P.length<J.ids.length by omega);have bj:nth (I7 P.length (J.ids.map (da t.cost.length 4))) 0=some (.sref pk.1 pk.2 0 t.cost.length 4):=Bd (by rw [Ag] at d6 ⊢; rw [Cw,d6]; rfl);have a1n:nth (I7 i (J.ids.map (da t.cost.length 4))) 0=some (.sref pi.1 pi.2 0 t.cost.length 4):=Bd (by rw [Ag] at hJi ⊢; rw [Cw,hJi]; rfl);have ef:nth (P++r0 :: U) P.length=some r0:=Ej;have bw:=ai.rowE P.length pk r0 d6 ef;have dh:=ai.rowW r0 (Ak ef);have or0:=ai.okr r0 (Ak ef);obtain ⟨f,hf⟩:=Af (show c<r0.length by simp only at dh; omega);have of:=or0 f (Ak hf);have hft:=Ap (ce:=ceW) Al hf;have hff:at_ q0 r0 c=f:=Av hf;obtain ⟨r,au,S3,k3,id,ep,rfl,dz,cu,mi,z7⟩:=Yx S' tk' n' pk.1 pk.2 pi.1 pi.2 f r0 p of bw o7 Za52 Za52 Za52 or0 op;simp only at dh;rw [dh] at au;have om:RTab S3 J { t with rows:=P++r0 :: U } vars m cc:=ai.frame fun j hj _=>cu j hj;have hz:(lsR f r0 p).length=t.cost.length:=by rw [Qx aA,dh]
    have hq:nth J.ids P.length=some (id,ep)\/OutR J (id,ep).1:=by
     rcases z7 with ⟨rfl,rfl⟩|h
     ·exact .inl d6
     ·exact .inr (ai.out h)
    have ba:=om.setRow (i:=P.length) (q:=(id,ep)) (r':=lsR f r0 p) (by simp only [Cm,Ch]; omega) hz (Ams of or0 op) hq mi;simp only [Ev] at ba;have hw3:=hw2 (lsR f r0 p);have htf:=om.top;simp only [Cm,d7,kx,ma] at htf;have hrf:=om.rowsE;simp only at hrf;have we:ldA prog 72 (.ref I.it I.et 0) S3=some (.sref J.ir J.er 0 t.rows.length 1):=by
     simp (disch:=try exact dqd) only [evs1,htf]
    have ky:over (J.ids.map (da t.cost.length 4)) P.length [.sref id ep 0 t.cost.length 4]=some (put (J.ids.map (da t.cost.length 4)) P.length (da t.cost.length 4 (id,ep))):=Q0 (w:=da t.cost.length 4 pk) (by rw [Ag] at d6 ⊢; rw [Cw,d6]; rfl);have hra:=fun {all T S} (h1:loadsB all (some 92)=[(72,.tmp 65,some 66,true)]) (h2:S.length<=S3.length) (h3:decide (66<T.length)=true) (h4:getT T 65=.ref I.it I.et 0) (h5:getT T 66=.sref J.ir J.er 0 t.rows.length 1)=>Av8 (P:=prog) (S:=S) h1 h2 h3 h4 h5 we;simp (maxSteps:=10^6)+contextual(disch:=try exact dqd)only[evgm,simprocAttr,Cb,Bg,Cc,results63,e0,e1,e2,e56,e57,c2,c3,du,ri,bj,a1n,bw,hft,hc,hi,cq,hw3,au,dz,hra,htf,hrf,ky,xfs,C9,Al,An,Bx,Bt,tkW,puW];have a1o:∀ j,j<S.length->OutR I j->nth (put S3 J.ir ⟨J.er,put (J.ids.map (da t.cost.length 4)) P.length (da t.cost.length 4 (id,ep))⟩) j=nth S j/\OutR { J with ids:=put J.ids P.length (id,ep) } j:=fun j h1 h2=>by
     obtain ⟨a1,a2⟩:=jy j h1 h2;refine ⟨by rw [Ab (Ih a2.2.1),cu j aA]; exact a1,a2.1,a2.2.1,a2.2.2.1,a2.2.2.2.1,fun q hq=>?_⟩;rcases Bk hq with rfl|hq
     ·rcases z7 with ⟨h3,h4⟩|h3
      ·show j≠id;rw [h3]; exact a2.2.2.2.2 pk (Ak d6)
      ·show j≠id;omega
     ·exact a2.2.2.2.2 q hq
    exact IH (put S3 J.ir ⟨J.er,put (J.ids.map (da t.cost.length 4)) P.length (da t.cost.length 4 (id,ep))⟩,k3,P++[lsR f r0 p],U,{ J with ids:=put J.ids P.length (id,ep) }) _ aF ⟨rfl,by rw [fi]; simp only [rowsR,if_neg qq,hff,Fa,Cn,Cq,Cm,Ch,Co,El],by show (P++[lsR f r0 p]).length+U.length=t.rows.length; simp only [Cm,Ch,Co] at d7 ⊢; omega,by simpa using ba,Za0k,by rw [Kt aE,if_neg (fun h=>qq h.symm)]; exact hJi,⟨kx,ma⟩,bQ,a1o,aP⟩
  ·have c2:decide ((P.length:Int)<(t.rows.length:Int))=false:=bX
   have wj:U=[]:=C4.1 aA;subst wj;simp only [rowsR] at fi;simp only [Fy,Co,I5] at fi d7 ai bl;have a1n:nth (I7 i (J.ids.map (da t.cost.length 4))) 0=some (.sref pi.1 pi.2 0 t.cost.length 4):=Bd (by rw [Ag] at hJi ⊢; rw [Cw,hJi]; rfl);obtain ⟨f,hf⟩:=Af hc;have of:=ag.okc f (Ak hf);have hft:=Ap (ce:=ceW) Al hf;have hff:at_ q0 t.cost c=f:=Av hf;have fm:=ai.costE;obtain ⟨r,au,S3,k3,id,ep,rfl,dz,cu,mi,z7⟩:=Yx S' tk' n' J.ic J.ec pi.1 pi.2 f t.cost p of fm o7 aA aA aA ag.okc op;have om:RTab S3 J { t with rows:=P } vars m cc:=ai.frame fun j hj _=>cu j hj;have hz:(lsR f t.cost p).length=t.cost.length:=Qx aA;have hq:(id,ep)=(J.ic,J.ec)\/OutR J (id,ep).1:=by
    rcases z7 with ⟨rfl,rfl⟩|h
    ·exact .inl rfl
    ·exact .inr (ai.out h)
   have ba:=om.setCost (q:=(id,ep)) (k':=lsR f t.cost p) hz (Ams of ag.okc op) hq mi;have fd:=ba.setBasis (i:=i) (b:=c);have htf:=om.top;simp only [d7,kx,ma] at htf;have htp:=ba.top;have jf:=ba.basisE;simp only [d7,kx,ma,hz] at htp jf;obtain ⟨b0,hb0⟩:=Af (show i<t.basis.length by rw [ag.nb]; exact hi);have ky:over (t.basis.map intA) i [.prim (.int .i64 (c:Int))]=some ((put t.basis i c).map intA):=by
    exact Ya2q
   have jx:=ag.nb;simp (maxSteps:=10^6)+contextual(disch:=try exact dqd)only[evgm,simprocAttr,Cb,Bg,Cc,results63,e0,e1,e2,e56,e57,c2,du,ri,a1n,fm,hft,o7,hc,hi,au,dz,htf,htp,jf,ky,R4,xfs,C9,Al,An,Bx,Bt,tkW,puW];rw [hΦ,a0s,hff,fi];simp only [d7,kx,ma] at fd;exact ⟨_,_,_,rfl,by rw [Ai,Ai]; omega,fd,rfl,rfl,fun j h1 h2=>by
    obtain ⟨a1,a2⟩:=jy j h1 h2;refine ⟨by rw [Ab (Ih a2.2.2.2.1),Ab (by rw [<- kx]; exact Ih a2.1),cu j aA]; exact a1,h2.1,a2.2.1,?_,a2.2.2.2.1,a2.2.2.2.2⟩;rcases z7 with ⟨h3,h4⟩|h3
    ·show j≠id;rw [h3]; exact a2.2.2.1
    ·show j≠id;omega⟩
end
end
section
open Go Go.Proofs.Tryz
set_option maxHeartbeats 8000000
set_option maxRecDepth 100000
def Rl:Option Nat->AV
 | none=>.int (-1)
 | some i=>.int (i:Nat)
theorem Qh {t:Tb} {c m:Nat} : ∀ {l:List (List Q)} {k:Nat} {b:Option Nat} {i:Nat},k+l.length<=m->(∀ i,b=some i->i<m)->G0 t c k l b=some i->i<m
 | [],k,b,i,_,hb,h=>hb i h
 | r :: l,k,b,i,hl,hb,h=>by
  simp only [Ch] at hl;unfold G0 at h;split at h
  ·exact Qh aA hb h
  ·split at h
   ·exact Qh (k:=k+1) (l:=l) aA (fun i e=>by simp only [A8] at e; omega) h
   ·refine Qh (k:=k+1) (l:=l) aA (fun i' e=>?_) h;split at e
    ·simp only [A8] at e; omega
    ·exact hb i' e
section
variable (S:List Ent) (tk:List Nat) (k:Nat)
theorem Aig (I:TI) (t:Tb) (vars:List ByteArray) (m:Nat) (cc:Cap) (c:Nat) (hT:RTab S I t vars m cc) (hc:c<t.cost.length) :
  ∃ r,cL prog 65 [.ref I.it I.et 0,.int c] S tk k=some r/\r=(Rl (G0 t c 0 t.rows none),S,tk,k):=by
 obtain ⟨Φ,hΦ⟩:∃ Φ:Rs->Prop,Φ=fun r=>r=(Rl (G0 t c 0 t.rows none),S,tk,k):=⟨_,rfl⟩;rw [show (∃ r,cL prog 65 [.ref I.it I.et 0,.int c] S tk k=some r/\r=(Rl (G0 t c 0 t.rows none),S,tk,k))=(∃ r,cL prog 65 [.ref I.it I.et 0,.int c] S tk k=some r/\Φ r) by rw [hΦ]];have aa:=hT.top;have ff:=hT.rowsE;have hW:=hT.bigW;have hM:=hT.bigM;refine opG func65 ntmps65 ?_;simp (maxSteps:=10^6)+contextual(disch:=try exact dqd)only[evg1,simprocAttr,Cb,Bg,Cc,results65,aa];refine Dp (P:=prog) (fun x st=>st.T.length=110/\(G0 t c 0 t.rows none=G0 t c x.1.length x.2.1 x.2.2)/\(t.rows=x.1++x.2.1)/\(∀ bi,x.2.2=some bi->bi<x.1.length)/\getT st.T 0=.ref I.it I.et 0/\getT st.T 1=.int (c:Nat)/\getT st.T 5=Rl x.2.2/\getT st.T 13=.int (t.rows.length:Nat)/\getT st.T 14=.int (x.1.length:Nat)/\st.S=S/\st.tk=tk/\st.n=k) (fun x=>x.2.1.length) (([]:List (List Q)),t.rows,(none:Option Nat)) ?_ ?_;case refine_2=>exact ⟨rfl,rfl,rfl,(fun _ h=>aR),rfl,rfl,rfl,rfl,rfl,rfl,rfl,rfl⟩
 rintro ⟨P,U,bst⟩ ⟨T,S',tk',n'⟩ ⟨hl,hR,d7,hb,e0,e1,e5,e13,e14,eS,eT,eN⟩ IH;simp only at hR d7 hb e0 e1 e5 e13 e14 eS eT eN;subst eS eT eN;obtain ⟨g,hg,hT⟩:=Au hl;rw [hg] at e0 e1 e5 e13 e14;subst hT;clear hg hl;have vq:t.rows.length=P.length+U.length:=dP
 by_cases cq:P.length<t.rows.length
 ·have c1:decide ((P.length:Int)<(t.rows.length:Int))=true:=bX
  obtain ⟨r0,U,rfl⟩:∃ r0 U',U=r0 :: U':=by
   exact Ya1f
  have vj:U.length<(r0 :: U).length:=by simp
  have tu:=fun {i:Nat} (hi:i<t.rows.length)=>show ∃ (p:Nat × Nat) (r:List Q),nth (I7 i (I.ids.map (da t.cost.length 4))) 0=some (.sref p.1 p.2 0 t.cost.length 4)/\entAt S' p.1 p.2=some (flat ceW r)/\nth t.rows i=some r/\r.length=t.cost.length by
   obtain ⟨r,hr⟩:=Af hi;obtain ⟨p,hp⟩:=Af (show i<I.ids.length by rw [hT.nids]; exact hi);exact ⟨p,r,Bd (by rw [Ag] at hp ⊢; rw [Cw,hp]; rfl),hT.rowE i p r hp hr,hr,hT.rowW r (Ak hr)⟩
  have ef:nth t.rows P.length=some r0:=by rw [d7]; exact Ej
  obtain ⟨pk,r0',bj,bw,a4m,dh⟩:=tu cq;obtain rfl:r0'=r0:=by rw [ef] at a4m; simpa using a4m.symm
  have or0:=hT.okr r0' (Ak ef);obtain ⟨x,hx⟩:=Af (show c<r0'.length by omega);have ox:=or0 x (Ak hx);have d9:=Ap (ce:=ceW) Al hx;have hs:=fun S tk k=>M7 S tk k x;have hw2:Ca.wrap ((P.length:Int)+1)=(((P++[r0']).length:Nat):Int):=bI
  have gy:t.rows=(P++[r0'])++U:=dP
  have me:(P++[r0']).length=P.length+1:=by simp
  by_cases mg:sgn x<=0
  ·have c2:decide (sgn x<=0)=true:=gN
   simp (maxSteps:=10^6)+contextual(disch:=try exact dqd)only[evg1,simprocAttr,Cb,Bg,Cc,results65,e0,e1,e5,e13,e14,c1,c2,hw2,aa,ff,bj,bw,d9,cq,hc,hs,C9,Al,An,Bx,Bt,tkW,puW];exact IH (P++[r0'],U,bst) _ aF ⟨rfl,by rw [hR,me]; simp only [G0,Av hx]; rw [if_pos mg],gy,fun bi h=>by have:=hb bi h; show bi<(P++[r0']).length; omega,aP⟩
  have c2:decide (sgn x<=0)=false:=gN
  cases bst with
  | none =>
   have c3:decide ((-1:Int)<0)=true:=rfl;simp only [Rl] at e5;simp (maxSteps:=10^6)+contextual(disch:=try exact dqd)only[evg1,simprocAttr,Cb,Bg,Cc,results65,e0,e1,e5,e13,e14,c1,c2,c3,hw2,aa,ff,bj,bw,d9,cq,hc,hs,C9,Al,An,Bx,Bt,tkW,puW];exact IH (P++[r0'],U,some P.length) _ aF ⟨rfl,by rw [hR,me]; simp only [G0,Av hx]; rw [if_neg mg],gy,fun bi h=>by simp only [A8] at h; show bi<(P++[r0']).length; omega,aP⟩
  | some bi =>
   have hbi:=hb bi rfl;have c3:decide ((bi:Int)<0)=false:=by simp
   simp only [Rl] at e5;have ig:Ca.wrap ((t.cost.length:Int) - 1)=((t.cost.length - 1:Nat):Int):=aS
   have ku:t.cost.length - 1<t.cost.length:=aA
   obtain ⟨z,hz⟩:=Af (show t.cost.length - 1<r0'.length by omega);have oz:=or0 z (Ak hz);have jw:=Ap (ce:=ceW) Al hz;have sb:bi<t.rows.length:=aA
   obtain ⟨pb,rb,a11,a12,hrb,hrbw⟩:=tu sb;have orb:=hT.okr rb (Ak hrb);obtain ⟨xb,u6⟩:=Af (show c<rb.length by omega);obtain ⟨zb,hzb⟩:=Af (show t.cost.length - 1<rb.length by omega);have oxb:=orb xb (Ak u6);have ozb:=orb zb (Ak hzb);have a13:=Ap (ce:=ceW) Al u6;have a14:=Ap (ce:=ceW) Al hzb;have hD1:=fun S tk k=>Ad2 S tk k z x oz ox;have hD2:=fun S tk k=>Ad2 S tk k zb xb ozb oxb;have df:quoR r0' c t.cost.length=(WW.qF.over z x).1:=by unfold quoR; rw [Av hz,Av hx]
   have hq2:quoR (Ba t bi) c t.cost.length=(WW.qF.over zb xb).1:=by unfold quoR Ba; rw [Av hrb,Av hzb,Av u6]
   rw [<- df] at hD1;rw [<- hq2] at hD2;have oq1:okW (quoR r0' c t.cost.length):=by rw [df]; exact WW.Dj.over _ _ oz ox
   have oq2:okW (quoR (Ba t bi) c t.cost.length):=by rw [hq2]; exact WW.Dj.over _ _ ozb oxb
   have hC:=fun S tk k=>Asi S tk k _ _ oq1 oq2;obtain ⟨s,hsd⟩:∃ s,s=cmpW (quoR r0' c t.cost.length) (quoR (Ba t bi) c t.cost.length):=⟨_,rfl⟩;rw [<- hsd] at hC;obtain ⟨bk,g8⟩:=Af (show P.length<t.basis.length by rw [hT.nb]; exact cq);obtain ⟨bb,hbb⟩:=Af (show bi<t.basis.length by rw [hT.nb]; exact sb);have jf:=hT.basisE;have eo:nth (I7 P.length (t.basis.map intA)) 0=some (.prim (.int .i64 (bk:Int))):=Bd (by rw [Ag] at g8 ⊢; rw [Cw,g8]; rfl);have rj:nth (I7 bi (t.basis.map intA)) 0=some (.prim (.int .i64 (bb:Int))):=Bd (by rw [Ag] at hbb ⊢; rw [Cw,hbb]; rfl);have uv:W8 t.basis s P.length bi=(decide (s<0) || (s == 0 && decide (bk<bb))):=by unfold W8; rw [Av g8,Av hbb]
   have qu:G0 t c 0 t.rows none=G0 t c (P++[r0']).length U (if W8 t.basis s P.length bi=true then some P.length else some bi):=by
    rw [hR,me]; simp only [G0,Av hx]; rw [if_neg mg,<- hsd]
   have hb2:∀ b,(if W8 t.basis s P.length bi=true then some P.length else some bi)=some b->b<(P++[r0']).length:=fun b h=>by
    rw [me];split at h <;> (simp only [A8] at h; omega)
   by_cases h1:s<0
   ·have k1:decide (s<0)=true:=aU
    rw [show W8 t.basis s P.length bi=true by rw [uv,k1]; rfl,if_pos rfl] at qu hb2;simp (maxSteps:=10^6)+contextual(disch:=try exact dqd)only[evg1,simprocAttr,Cb,Bg,Cc,results65,e0,e1,e5,e13,e14,c1,c2,c3,k1,hw2,aa,ff,bj,bw,d9,jw,a11,a12,a13,a14,ig,ku,cq,sb,hc,hs,hD1,hD2,hC,C9,Al,An,Bx,Bt,tkW,puW];exact Ya4a
   have k1:decide (s<0)=false:=aU
   by_cases h2:s=0
   ·have k2:(s == 0)=true:=cA
    by_cases h3:bk<bb
    ·have k3:decide ((bk:Int)<(bb:Int))=true:=eH
     rw [show W8 t.basis s P.length bi=true by rw [uv,k1,k2]; simpa using h3,if_pos rfl] at qu hb2;simp (maxSteps:=10^6)+contextual(disch:=try exact dqd)only[evg1,simprocAttr,Cb,Bg,Cc,results65,e0,e1,e5,e13,e14,c1,c2,c3,k1,k2,k3,hw2,aa,ff,bj,bw,d9,jw,a11,a12,a13,a14,ig,ku,cq,sb,hc,hs,hD1,hD2,hC,jf,eo,rj,C9,Al,An,Bx,Bt,tkW,puW];exact Ya4a
    ·have k3:decide ((bk:Int)<(bb:Int))=false:=eH
     rw [show W8 t.basis s P.length bi=false by rw [uv,k1,k2]; simpa using h3,if_neg F6] at qu hb2;simp (maxSteps:=10^6)+contextual(disch:=try exact dqd)only[evg1,simprocAttr,Cb,Bg,Cc,results65,e0,e1,e5,e13,e14,c1,c2,c3,k1,k2,k3,hw2,aa,ff,bj,bw,d9,jw,a11,a12,a13,a14,ig,ku,cq,sb,hc,hs,hD1,hD2,hC,jf,eo,rj,C9,Al,An,Bx,Bt,tkW,puW];exact IH (P++[r0'],U,some bi) _ aF ⟨rfl,qu,gy,hb2,aP⟩
   ·have k2:(s == 0)=false:=cA
    rw [show W8 t.basis s P.length bi=false by rw [uv,k1,k2]; rfl,if_neg F6] at qu hb2;simp (maxSteps:=10^6)+contextual(disch:=try exact dqd)only[evg1,simprocAttr,Cb,Bg,Cc,results65,e0,e1,e5,e13,e14,c1,c2,c3,k1,k2,hw2,aa,ff,bj,bw,d9,jw,a11,a12,a13,a14,ig,ku,cq,sb,hc,hs,hD1,hD2,hC,C9,Al,An,Bx,Bt,tkW,puW];exact IH (P++[r0'],U,some bi) _ aF ⟨rfl,qu,gy,hb2,aP⟩
 ·have c1:decide ((P.length:Int)<(t.rows.length:Int))=false:=bX
  have wj:U=[]:=C4.1 aA;subst wj;simp (maxSteps:=10^6)+contextual(disch:=try exact dqd)only[evg1,simprocAttr,Cb,Bg,Cc,results65,e0,e1,e5,e13,e14,c1];simp only [G0] at hR;have hfz:fz3 S'.length S' (Rl bst)=Rl bst:=by cases bst <;> rfl
  rw [hΦ,hR,hfz];try simp only [Fm]
end
end
section
open Go Go.Proofs.Tryz
set_option maxHeartbeats 8000000
set_option maxRecDepth 100000
theorem Ak9 {cost:List Q} : ∀ {n j c:Nat},colF cost n j=some c->j<=c/\c<j+n
 | 0,_,_,h=>by simp [colF] at h
 | n+1,j,c,h=>by
  unfold colF at h;split at h
  ·simp only [A8] at h; omega
  ·have:=Ak9 h; omega
theorem Ac7 {S:List Ent} {I:TI} {t:Tb} {vars:List ByteArray} {m:Nat} {cc:Cap} {i c:Nat} (h:RTab S I t vars m cc) (hi:i<t.rows.length):(pivR t i c).cost.length=t.cost.length:=by
 obtain ⟨row,az⟩:=Af hi;have:=h.rowW row (Ak az);unfold pivR Ba;rw [Av az];exact Qx (by rw [Am5]; omega)
section
variable (S:List Ent) (tk:List Nat) (k:Nat)
theorem Aa5 (I:TI) (t t':Tb) (vars:List ByteArray) (m:Nat) (cc:Cap) (lim K:Nat) (b:Bool) (ag:RTab S I t vars m cc) (vp:lim<=t.cost.length) (hK:H5 lim K t=some (b,t')) :
  ∃ r,cL prog 40 [.ref I.it I.et 0,.int lim] S tk k=some r/\RetR S tk I t' vars m cc (.bool b) r:=by
 obtain ⟨Φ,hΦ⟩:∃ Φ,Φ=RetR S tk I t' vars m cc (.bool b):=⟨_,rfl⟩;rw [<- hΦ];refine opM func40 ntmps40 ?_;simp (maxSteps:=10^6)+contextual(disch:=try exact dqd)only[evgm,simprocAttr,Cb,Bg,Cc,results40];refine Dp (P:=prog) (fun x st=>st.T.length=38/\(H5 lim x.2.2.1 x.2.2.2.1=some (b,t'))/\(RTab x.1 x.2.2.2.2 x.2.2.2.1 vars m cc)/\(x.2.2.2.1.cost.length=t.cost.length)/\(x.2.2.2.2.it=I.it/\x.2.2.2.2.et=I.et)/\(S.length<=x.1.length)/\(∀ j,j<S.length->OutR I j->nth x.1 j=nth S j/\OutR x.2.2.2.2 j)/\getT st.T 0=.ref I.it I.et 0/\getT st.T 1=.int (lim:Nat)/\st.S=x.1/\st.tk=tk/\st.n=x.2.1) (fun x=>x.2.2.1) (S,k,K,t,I) ?_ ?_;case refine_2=>exact ⟨rfl,hK,ag,rfl,⟨rfl,rfl⟩,Ce _,fun j _ h=>⟨rfl,h⟩,rfl,rfl,rfl,rfl,rfl⟩
 rintro ⟨SS,n1,K1,t1,J⟩ ⟨T,S',tk',n'⟩ ⟨hl,dy,hT,hcl,hJ,cn,am,e0,e1,eS,eT,eN⟩ IH;simp only at dy hT hcl hJ cn am e0 e1 eS eT eN;subst eS eT eN;obtain ⟨g,hg,hT⟩:=Au hl;rw [hg] at e0 e1;subst hT;clear hg hl;have IHA:=IH;clear IH;obtain ⟨kx,ma⟩:=hJ;cases K1 with
 | zero=>simp [H5] at dy
 | succ K1 =>
 have aa:=hT.top;simp only [kx,ma] at aa;have fm:=hT.costE;have hW:=hT.bigW;unfold H5 at dy;simp (maxSteps:=10^6)+contextual(disch:=try exact dqd)only[evgm,simprocAttr,Cb,Bg,Cc,results40,e0,e1];refine Dp (P:=prog) (fun x st=>st.T.length=38/\(x.1<=lim)/\((x.2=none/\colF t1.cost lim 0=colF t1.cost (lim - x.1) x.1)\/∃ c,x.2=some c/\colF t1.cost lim 0=some c)/\getT st.T 0=.ref I.it I.et 0/\getT st.T 1=.int (lim:Nat)/\getT st.T 5=Rl x.2/\getT st.T 6=.int (x.1:Nat)/\st.S=S'/\st.tk=tk'/\st.n=n') (fun x=>lim - x.1) (0,(none:Option Nat)) ?_ ?_;case refine_2=>exact ⟨rfl,Cl _,.inl ⟨rfl,rfl⟩,rfl,rfl,rfl,rfl,rfl,rfl,rfl⟩
 rintro ⟨j,co⟩ ⟨T,S',tk',n'⟩ ⟨hl,hj,hco,e0,e1,e5,e6,eS,eT,eN⟩ IH;simp only at hj hco e0 e1 e5 e6 eS eT eN;subst eS eT eN;obtain ⟨g,hg,hT⟩:=Au hl;rw [hg] at e0 e1 e5 e6;subst hT;clear hg hl;rcases hco with ⟨rfl,hc⟩|⟨c,rfl,hc⟩
 ·have c3:decide ((-1:Int)<0)=true:=rfl;simp only [Rl] at e5;by_cases rk:j<lim
  ·have c1:decide ((j:Int)<(lim:Int))=true:=cQ
   have hw:Ca.wrap ((j:Int)+1)=((j+1:Nat):Int):=aK
   have kv:j<t1.cost.length:=aA
   obtain ⟨x,hx⟩:=Af kv;have d9:=Ap (ce:=ceW) Al hx;have hs:=fun S tk k=>M7 S tk k x;have q9:colF t1.cost (lim - j) j=if sgn x<0 then some j else colF t1.cost (lim - (j+1)) (j+1):=by
    rw [show lim - j=(lim - (j+1))+1 by omega];simp only [colF,Av hx]
   by_cases hneg:sgn x<0
   ·have c2:decide (sgn x<0)=true:=aX
    rw [q9,if_pos hneg] at hc;simp (maxSteps:=10^6)+contextual(disch:=try exact dqd)only[evgm,simprocAttr,Cb,Bg,Cc,results40,e0,e1,e5,e6,c1,c2,c3,hw,aa,fm,d9,kv,hs,C9,Al,An,Bx,Bt,tkW,puW];exact IH (j+1,some j) _ aF ⟨rfl,aE,.inr ⟨j,rfl,hc⟩,aP⟩
   ·have c2:decide (sgn x<0)=false:=aX
    rw [q9,if_neg hneg] at hc;simp (maxSteps:=10^6)+contextual(disch:=try exact dqd)only[evgm,simprocAttr,Cb,Bg,Cc,results40,e0,e1,e5,e6,c1,c2,c3,hw,aa,fm,d9,kv,hs,C9,Al,An,Bx,Bt,tkW,puW];exact IH (j+1,none) _ aF ⟨rfl,aE,.inl ⟨rfl,hc⟩,aP⟩
  ·have c1:decide ((j:Int)<(lim:Int))=false:=cQ
   rw [hc,show lim - j=0 by omega] at dy;simp only [colF,A8,Cg] at dy;obtain ⟨rfl,rfl⟩:=dy;simp (maxSteps:=10^6)+contextual(disch:=try exact dqd)only[evgm,simprocAttr,Cb,Bg,Cc,results40,e0,e1,e5,e6,c1,c3];rw [hΦ];exact ⟨_,_,J,rfl,cn,hT,kx,ma,am⟩
 ·have yo:=Ak9 hc;have hcc:c<t1.cost.length:=aA
  rw [hc] at dy;simp only at dy;simp only [Rl] at e5;have c3:decide ((c:Int)<0)=false:=by simp
  obtain ⟨r,i8,rfl⟩:=Aig S' tk' n' J t1 vars m cc c hT hcc;rw [kx,ma] at i8;cases hl:G0 t1 c 0 t1.rows none with
  | none =>
   rw [hl] at dy i8;simp only [A8,Cg] at dy;obtain ⟨rfl,rfl⟩:=dy;have c4:decide ((-1:Int)<0)=true:=rfl;simp only [Rl] at i8;cases c1:decide ((j:Int)<(lim:Int));all_goals
    simp (maxSteps:=10^6)+contextual(disch:=try exact dqd)only[evgm,simprocAttr,Cb,Bg,Cc,results40,e0,e1,e5,e6,c1,c3,c4,i8,Fm]
    rw [hΦ]
    exact ⟨_,_,J,rfl,cn,hT,kx,ma,am⟩
  | some i =>
   rw [hl] at dy i8;have yx:i<t1.rows.length:=Qh (t:=t1) (c:=c) (l:=t1.rows) (k:=0) aA (fun _ h=>aN) hl;obtain ⟨r,jc,S3,k3,J3,rfl,dz,ba,a3r,a3s,de⟩:=Aa6 S' tk' n' J t1 vars m cc i c hT yx hcc;rw [kx,ma] at jc;have c4:decide ((i:Int)<0)=false:=by simp
   simp only [Rl] at i8;have zw:(pivR t1 i c).cost.length=t.cost.length:=by rw [Ac7 hT yx]; exact hcl
   have a1o:∀ j,j<S.length->OutR I j->nth S3 j=nth S j/\OutR J3 j:=fun j h1 h2=>by
    obtain ⟨a1,a2⟩:=am j h1 h2;obtain ⟨b1,b2⟩:=de j aA a2;exact ⟨by rw [b1]; exact a1,b2⟩
   cases c1:decide ((j:Int)<(lim:Int));all_goals
    simp (maxSteps:=10^6)+contextual(disch:=try exact dqd)only[evgm,simprocAttr,Cb,Bg,Cc,results40,e0,e1,e5,e6,c1,c3,c4,i8,jc,Fm]
    exact IHA (S3,k3,K1,pivR t1 i c,J3) _ aF ⟨rfl,dy,ba,zw,⟨a3r.trans kx,a3s.trans ma⟩,by show S.length<=S3.length; omega,a1o,aP⟩
end
end
section
open Go Go.Proofs.Tryz
set_option maxRecDepth 100000
section
variable {P:Program} {t:TypeId} {ys:List (List AV)} {S:List Ent} {n:Nat} {c:Cap}
theorem lit4 (hr:Dk 4 ys=true) (hl:(ys.all fun e=>e.all leafOk)=true):litC 4 (.frz ys c)=some (ys.length,ys.flatten):=if_pos ⟨hr,hl⟩
theorem ap4n (h:apT P t=some 4) (hr:Dk 4 ys=true) (hl:(ys.all fun e=>e.all leafOk)=true) (h0:0<ys.length) (hm:ys.length<=1048576):apO P t (.frz [] .nilc) (.frz ys c) S n=some (.sref S.length n 0 ys.length 4,S++[⟨n,ys.flatten⟩],n+1):=by
 unfold apO;rw [h]; simp only [lit4 hr hl];rw [if_pos ⟨h0,by simpa [roomy] using hm⟩];rfl
theorem ap4m {id ep len:Nat} {cs:List AV} (h:apT P t=some 4) (hr:Dk 4 ys=true) (hl:(ys.all fun e=>e.all leafOk)=true) (hy:0<ys.length) (hE:entAt S id ep=some cs) (hc:cs.length=len*4) (h0:0<len) (h1:len+ys.length<=1048576):apO P t (.sref id ep 0 len 4) (.frz ys c) S n=some (.sref id n 0 (len+ys.length) 4,put S id ⟨n,cs++ys.flatten⟩,n+1):=by
 unfold apO;rw [h]; simp only [lit4 hr hl];rw [if_pos ⟨hy,by simp [roomy]; omega⟩];simp only [apO2,hE];rw [if_pos ⟨trivial,h0⟩];rw [if_pos ⟨hc,Za5f⟩]
end
section
variable (S:List Ent) (tk:List Nat) (k:Nat)
theorem Af0 (cs:List (ByteArray × Int)) (n:Int) (s:ByteArray) (hl:cs.length<=1048576):cL prog 38 [.agg [Ao cs,.int n],.str s] S tk k=some (.int (Gg cs s),S,tk,k):=by
 refine opP func38 ntmps38 (hp3:=rfl) ?_;simp (maxSteps:=10^6)+contextual(disch:=try exact dqd)only[ev1,simprocAttr,Cb,Bg,Cc,results38,Ao];refine loop1 (P:=prog) (fun x st=>st.T.length=21/\(x<=cs.length)/\(Gg cs s=Gg (cs.drop x) s)/\getT st.T 1=.str s/\getT st.T 8=Ao cs/\getT st.T 9=.int (cs.length:Nat)/\getT st.T 10=.int (x:Nat)/\st.S=[⟨0,[Ao cs,.int n]⟩]) (fun x=>cs.length - x) (fun x=>.int (Gg cs s)) (0) ?_ ?_;case refine_2=>exact ⟨rfl,Cl _,rfl,rfl,rfl,rfl,rfl,rfl⟩
 rintro i ⟨T,S',tk',n'⟩ ⟨hl,hi,hs,e1,e8,e9,e10,eS⟩ IH;subst eS;obtain ⟨g,hg,hT⟩:=Au hl;rw [hg] at e1 e8 e9 e10;subst hT;clear hg hl;by_cases la:i<cs.length
 ·have ez:Ca.wrap ((i:Int)+1)=((i+1:Nat):Int):=aK
  have d1:decide ((i:Int)<(cs.length:Int))=true:=bS
  obtain ⟨c,hx⟩:=Af la;have hx':nth (cs.map D2) i=some (D2 c):=dL
  simp only [D2] at hx';rw [A1 hx] at hs;cases d2:sEq c.1 s with
  | true =>
   simp (maxSteps:=10^6)+contextual(disch:=try exact dqd)only[ev1,simprocAttr,Cb,Bg,Cc,results38,e1,e8,e9,e10,d1,d2,hx',ez,Ao];rw [hs,Gg,if_pos d2]
  | false =>
   simp (maxSteps:=10^6)+contextual(disch:=try exact dqd)only[ev1,simprocAttr,Cb,Bg,Cc,results38,e1,e8,e9,e10,d1,d2,hx',ez,Ao];exact IH (i+1) _ aF ⟨rfl,aE,by rw [hs,Gg,if_neg (by rw [d2]; simp)],aG,aG,aG,aG,aG⟩
 ·have d1:decide ((i:Int)<(cs.length:Int))=false:=bS
  rw [Cy aA] at hs;simp (maxSteps:=10^6)+contextual(disch:=try exact dqd)only[ev1,simprocAttr,Cb,Bg,Cc,results38,e1,e8,e9,e10,d1];rw [hs,Gg]
theorem Hf (it et:Nat) (a b c d:AV) (vars:List ByteArray) (m:Nat) (h:entAt S it et=some [a,b,c,.frz (vars.map strC) .unk,d,intA m]) (hv:vars.length<=1000000) (hm:m<=1000000):cL prog 37 [.ref it et 0] S tk k=some (.int ((2*vars.length+m:Nat):Int),S,tk,k):=by
 have w1':Ca.wrap (2*(vars.length:Int))=((2*vars.length:Nat):Int):=aK
 have w2':Ca.wrap (((2*vars.length:Nat):Int)+(m:Int))=((2*vars.length+m:Nat):Int):=aK
 simp only [intA] at h;refine opS func37 ntmps37 ?_;simp (maxSteps:=10^6)+contextual(disch:=try exact dqd)only[evs1,simprocAttr,Cb,Bg,Cc,results37,h,w1',w2',Fj];try simp only [finS_some,Fm,fz3,fz2,fz1]
end
end
section
open Go Go.Proofs.Tryz
set_option maxHeartbeats 8000000
set_option maxRecDepth 100000
theorem Acw {s:Int} {cs:List (ByteArray × Int)} : ∀ {a b:List ByteArray},Jb s cs (a++b)=Jb s cs a++Jb s cs b
 | [],_=>rfl
 | v :: a,b=>by simp only [Cn,Jb,Acw]
theorem Ai1 {s:Int} {cs:List (ByteArray × Int)} {vs:List ByteArray} {j:Nat} {v:ByteArray} (h:nth vs j=some v):Jb s cs (vs.take (j+1))=Jb s cs (vs.take j)++[iQ (s*Gg cs v),iQ (-s*Gg cs v)]:=by
 rw [Ag] at h;rw [V7,h,Acw]; rfl
theorem V8 {s:Int} {cs:List (ByteArray × Int)} : ∀ {vs:List ByteArray},(Jb s cs vs).length=2*vs.length
 | []=>rfl
 | v :: vs=>by simp only [Jb,Ch,V8]; omega
theorem P3 {cs:List (ByteArray × Int)} {v:ByteArray} (h:∀ c ∈ cs,inB c.2=true) : -1000000000000<=Gg cs v/\Gg cs v<=1000000000000:=by
 induction cs with
 | nil=>simp [Gg]
 | cons c cs ih =>
  unfold Gg;split
  ·have:=h c (by simp); simpa [inB] using this
  ·exact ih fun c hc=>h c (by simp [hc])
def OwnL (SS:List Ent) (id e:Nat) (l:List Q):Prop:=if l=[] then SS.length=id else SS.length=id+1/\entAt SS id e=some (flat ceW l)
def Gu (S:List Ent) (id n:Nat) (l:List Q) (cs:List AV):List Ent:=if l=[] then S++[⟨n,cs⟩] else put S id ⟨n,cs⟩
section
variable {P:Program} {t:TypeId} {S:List Ent} {id e n:Nat} {l zs:List Q} {cs:List AV} {c:Cap}
theorem Agv:flat ceW (l++zs)=flat ceW l++flat ceW zs:=by unfold flat; simp
theorem Ad9 (h:apT P t=some 4) (hz:zs≠[]) (hO:OwnL S id e l) (hb:l.length+zs.length<=1048576):apO P t (ohd id e l.length) (.frz (zs.map ceW) c) S n=some (ohd id n (l.length+zs.length),Gu S id n l (flat ceW (l++zs)),n+1):=by
 have hr:Dk 4 (zs.map ceW)=true:=Gq (f:=ceW) Al zs;have hl:((zs.map ceW).all fun e=>e.all leafOk)=true:=by simp [Fb,An]
 have h0:0<zs.length:=F8.2 hz;unfold OwnL at hO;unfold Gu;by_cases hn:l=[]
 ·rw [if_pos hn] at hO;rw [if_pos hn];subst hn hO;have:=ap4n (S:=S) (n:=n) (c:=c) h hr hl aW dJ;rw [Fj] at this;simp only [Co,El,Cq];rw [show ohd S.length n zs.length=.sref S.length n 0 zs.length 4 from Jz aA];exact this
 ·rw [if_neg hn] at hO;rw [if_neg hn];have c8:0<l.length:=F8.2 hn;have:=ap4m (S:=S) (n:=n) (c:=c) h hr hl aW hO.2 (Vn Al) c8 dJ;rw [Fj] at this;rw [Jz aA,Jz aA,Agv];exact this
theorem OwnL.put (hO:OwnL S id e l) (hz:zs≠[]):OwnL (Gu S id n l (flat ceW (l++zs))) id n (l++zs):=by
 unfold OwnL Gu at *;rw [if_neg (show l++zs≠[] by simp [hz])];by_cases hn:l=[]
 ·rw [if_pos hn] at hO ⊢;subst hO;exact ⟨by simp,Az⟩
 ·rw [if_neg hn] at hO ⊢;exact ⟨by rw [Ai]; exact hO.1,Ae aA⟩
theorem OwnL.le (hO:OwnL S id e l):id<=S.length:=by unfold OwnL at hO; split at hO <;> omega
theorem OwnL.old (hO:OwnL S id e l) {j:Nat} (hj:j<id):nth (Gu S id n l cs) j=nth S j:=by
 have:=hO.le;unfold Gu; split
 ·exact Ax aA
 ·exact Ab aA
theorem X7:(Gu S id n l cs).length=S.length+(if l=[] then 1 else 0):=by
 unfold Gu; split
 ·simp
 ·simp [Ai]
end
def Aex (S:List Ent) (tk:List Nat) (it et:Nat) (a b c:AV) (vars:List ByteArray) (m:Nat) (fl:List Bool) (cc:Cap) (i:Nat) (r:RowT) (o:Rs):Prop :=
 ∃ S' k' ep,o=(.sref (S.length+1) ep 0 (Jk vars m i r).length 4,S',Gf tk cc,k')/\S'.length=S.length+2/\(∀ j,j<S.length->j≠it->nth S' j=nth S j)/\entAt S' it et=some [a,b,c,.frz (vars.map strC) .unk,.frz ((fl++[decide (sgI r<0)]).map De) (A6 tk cc 1),intA m]/\entAt S' (S.length+1) ep=some (flat ceW (Jk vars m i r))
section
variable (S:List Ent) (tk:List Nat) (k:Nat)
theorem Hq (n:Int) (hn:i64 n):cL prog 26 [.int n] S tk k=some (.agg (ceW (iQ n)),S,tk,k):=Ash S tk k n hn
structure Auj (S:List Ent) (tk:List Nat) (it et:Nat) (vars:List ByteArray) (m:Nat) (fl:List Bool) (cc:Cap) (i:Nat) (r:RowT):Prop where
 hit:it<S.length
 hcap:Bn tk cc 1=true
 hfl:fl.length<=1000000
 hi:i<m
 hv:vars.length<=100000
 hm:m<=100000
 hcl:r.1.length<=1048576
 hc:∀ c ∈ r.1,inB c.2=true
 hn:inB r.2.1=true
theorem Acx (it et:Nat) (a b c:AV) (vars:List ByteArray) (m:Nat) (fl:List Bool) (cc:Cap) (i:Nat) (r:RowT) (C:Auj S tk it et vars m fl cc i r) (sg:Int) (hsd:sg=sgI r) (E:Ent) (hE:E=⟨et,[a,b,c,.frz (vars.map strC) .unk,.frz (fl.map De++[De (decide (sg<0))]) (A6 tk cc 1),.prim (.int .i64 (m:Int))]⟩) (T:List AV)
  (hTl:T.length=97) (t0:getT T 0=.ref it et 0) (t1:getT T 1=.int (i:Nat)) (t5:getT T 5=.ref S.length k 0) (t7:getT T 7=.int (-r.2.1)) (t8:getT T 8=.int sg) (t9:getT T 9=.frz [] .nilc) (t34:getT T 34=.frz (vars.map strC) .unk) (t35:getT T 35=.int (vars.length:Nat)) (t36:getT T 36=.int ((0:Nat):Int)) :
  Gd finM (Aex S tk it et a b c vars m fl cc i r) (KA prog Tryz.f60 8 [] ⟨T,put S it E++[(⟨k,[Ao r.1,.int r.2.1,.bool r.2.2]⟩:Ent)],Gf tk cc,k+1⟩):=by
 obtain ⟨hit,hcap,hfl,hi,hv,hm,hcl,hc,hn⟩:=C;obtain ⟨Φ,hΦ⟩:∃ Φ,Φ=Aex S tk it et a b c vars m fl cc i r:=⟨_,rfl⟩;rw [<- hΦ];have jd:sg=1\/sg=-1:=by rw [hsd]; unfold sgI; split <;> simp
 have jx : -1000000000000<=r.2.1/\r.2.1<=1000000000000:=by simpa [inB] using hn
 have hco:∀ v S tk k,cL prog 38 [.agg [Ao r.1,.int r.2.1],.str v] S tk k=some (.int (Gg r.1 v),S,tk,k):=fun v S tk k=>Af0 S tk k r.1 r.2.1 v hcl;simp only [Ao] at hco;have k9:Ca.wrap (2*(m:Int))=((2*m:Nat):Int):=aK
 have hmi:Ca.wrap ((m:Int)+(i:Int))=((m+i:Nat):Int):=aK
 have cd:apT prog 54=some 4:=aI
 have fo:=fun S tk k=>Hq S tk k 0 aC;have hi1:=fun S tk k=>Hq S tk k 1 aC;have is:=fun S tk k=>Hq S tk k sg aC;have hEt:∀ (L:List Ent),entAt (put S it E++L) it et=some E.cells:=fun L=>by rw [hE]; exact Ad (Ae hit)
 refine W3 rfl (t:=.mk) ?_;refine Dp (P:=prog) (fun x st=>st.T.length=97/\(x.2.2.1<=vars.length)/\(OwnL x.1 (S.length+1) x.2.2.2 (Jb sg r.1 (vars.take x.2.2.1)))/\(entAt x.1 S.length k=some [Ao r.1,.int r.2.1,.bool r.2.2])/\(entAt x.1 it et=some E.cells)/\(∀ q,q<S.length->q≠it->nth x.1 q=nth S q)/\getT st.T 0=.ref it et 0/\getT st.T 1=.int (i:Nat)/\getT st.T 5=.ref S.length k 0/\getT st.T 7=.int (-r.2.1)/\getT st.T 8=.int sg/\getT st.T 9=ohd (S.length+1) x.2.2.2 (2*x.2.2.1)/\getT st.T 34=.frz (vars.map strC) .unk/\getT st.T 35=.int (vars.length:Nat)/\getT st.T 36=.int (x.2.2.1:Nat)/\st.S=x.1/\st.tk=Gf tk cc/\st.n=x.2.1) (fun x=>vars.length - x.2.2.1) ((put S it E++[(⟨k,[Ao r.1,.int r.2.1,.bool r.2.2]⟩:Ent)]),(k+1),0,0) ?_ ?_;case refine_2=>exact ⟨aH,Cl _,by simp [OwnL,Jb,Ai],Am (Ai),hEt _,(fun q h1 h2=>by rw [Ax (by rw [Ai]; exact h1),Ab (Ih h2)]),aH,aH,aH,aH,aH,aH,aH,aH,aH,aH,aH,aH⟩
 rintro ⟨SS,n1,j,e⟩ ⟨T,S',tk',n'⟩ ⟨hl,hj,hO,hB,hSt,am,e0,e1,e5,e7,e8,e9,e34,e35,e36,eS,eT,eN⟩ IH;simp only at hj hO hB hSt am e0 e1 e5 e7 e8 e9 e34 e35 e36 eS eT eN;subst eS eT eN;obtain ⟨g,hg,hT⟩:=Au hl;rw [hg] at e0 e1 e5 e7 e8 e9 e34 e35 e36;subst hT;clear hg hl;have lu:(Jb sg r.1 (vars.take j)).length=2*j:=by rw [V8]; simp; omega
 by_cases hjv:j<vars.length
 ·have c1:decide ((j:Int)<(vars.length:Int))=true:=fZ
  have hw:Ca.wrap ((j:Int)+1)=((j+1:Nat):Int):=aK
  obtain ⟨v,hv1⟩:=Af hjv;have vn:nth (vars.map strC) j=some (strC v):=by rw [Dx,hv1]; rfl
  simp only [strC] at vn;have hcb:=P3 (v:=v) hc;obtain ⟨x,hx⟩:∃ x,x=sg*Gg r.1 v:=⟨_,rfl⟩;obtain ⟨y,hy⟩:∃ y,y=-sg*Gg r.1 v:=⟨_,rfl⟩;have ee:Ca.wrap (sg*Gg r.1 v)=x:=by rw [hx]; exact Ac Za19
  have ie:Ca.wrap (-sg*Gg r.1 v)=y:=by rw [hy]; exact Ac Za19
  have hng:Ca.wrap (0 - sg)=-sg:=aS
  have ix:=fun S tk k=>Hq S tk k x (by unfold i64; rw [hx]; rcases jd with h|h <;> rw [h] <;> omega);have iy:=fun S tk k=>Hq S tk k y (by unfold i64; rw [hy]; rcases jd with h|h <;> rw [h] <;> omega);have q7:=Ai1 (s:=sg) (cs:=r.1) hv1;rw [<- hx,<- hy] at q7;have ew:∀ c n,apO prog 54 (ohd (S.length+1) e (2*j)) (.frz [ceW (iQ x),ceW (iQ y)] c) S' n=some (ohd (S.length+1) n (2*(j+1)),Gu S' (S.length+1) n (Jb sg r.1 (vars.take j)) (flat ceW (Jb sg r.1 (vars.take (j+1)))),n+1):=fun c n=>by
   have:=Ad9 (n:=n) (c:=c) (zs:=[iQ x,iQ y]) cd (by simp) hO (by rw [lu]; simp; omega);rw [lu,<- q7] at this;exact this
  simp (maxSteps:=10^6)+contextual(disch:=try exact dqd)only[evg1,simprocAttr,Cb,Bg,Cc,results60,e0,e1,e5,e7,e8,e9,e34,e35,e36,c1,hw,vn,hjv,hB,hco,ee,ie,hng,ix,iy,ew,Ao,Al,An,Bx,Bt,tkW,puW];exact IH (Gu S' (S.length+1) n' (Jb sg r.1 (vars.take j)) (flat ceW (Jb sg r.1 (vars.take (j+1)))),n'+1,j+1,n') _ aF ⟨rfl,aE,by rw [q7]; exact hO.put (by simp),by rw [Aa (hO.old aE)]; exact hB,by rw [Aa (hO.old aE)]; exact hSt,fun q h1 h2=>by rw [hO.old aE]; exact am q h1 h2,aP⟩
 ·have c1:decide ((j:Int)<(vars.length:Int))=false:=fZ
  have vw:j=vars.length:=aA
  subst vw;rw [Fm] at hO lu;obtain ⟨L1,xw⟩:∃ L1,L1=Jb sg r.1 vars:=⟨_,rfl⟩;rw [<- xw] at hO lu;have a3t:=hSt;rw [hE] at a3t;simp only at a3t;simp (maxSteps:=10^6)+contextual(disch:=try exact dqd)only[evg1,simprocAttr,Cb,Bg,Cc,results60,e0,e1,e5,e7,e8,e9,e34,e35,e36,c1,a3t,k9];obtain ⟨F,hF⟩:∃ F:Nat->Q,F=fun q=>iQ (Zu m i r q):=⟨_,rfl⟩;refine Dp (P:=prog) (fun x st=>st.T.length=97/\(x.2.2.1<=2*m)/\(OwnL x.1 (S.length+1) x.2.2.2 (L1++(Cz x.2.2.1).map F))/\(entAt x.1 S.length k=some [Ao r.1,.int r.2.1,.bool r.2.2])/\(entAt x.1 it et=some E.cells)/\(∀ q,q<S.length->q≠it->nth x.1 q=nth S q)/\getT st.T 0=.ref it et 0/\getT st.T 1=.int (i:Nat)/\getT st.T 5=.ref S.length k 0/\getT st.T 7=.int (-r.2.1)/\getT st.T 8=.int sg/\getT st.T 9=ohd (S.length+1) x.2.2.2 (2*vars.length+x.2.2.1)/\getT st.T 63=.int ((2*m:Nat):Int)/\getT st.T 64=.int (x.2.2.1:Nat)/\st.S=x.1/\st.tk=Gf tk cc/\st.n=x.2.1) (fun x=>2*m - x.2.2.1) (S',n',0,e) ?_ ?_;case refine_2=>exact ⟨rfl,Cl _,by simpa using hO,hB,hSt,am,rfl,rfl,rfl,rfl,rfl,rfl,rfl,rfl,rfl,rfl,rfl⟩
  rintro ⟨SS,n1,j,e⟩ ⟨T,S',tk',n'⟩ ⟨hl,hj,hO,hB,hSt,am,e0,e1,e5,e7,e8,e9,e63,e64,eS,eT,eN⟩ IH;simp only at hj hO hB hSt am e0 e1 e5 e7 e8 e9 e63 e64 eS eT eN;subst eS eT eN;obtain ⟨g,hg,hT⟩:=Au hl;rw [hg] at e0 e1 e5 e7 e8 e9 e63 e64;subst hT;clear hg hl;have a15:(L1++(Cz j).map F).length=2*vars.length+j:=by simp [lu]
  have a3u:=hSt;rw [hE] at a3u;simp only at a3u;by_cases hjm:j<2*m
  ·have c2:decide ((j:Int)<((2*m:Nat):Int))=true:=aD
   have hw:Ca.wrap ((j:Int)+1)=((j+1:Nat):Int):=aK
   have q7:(Cz (j+1)).map F=(Cz j).map F++[F j]:=by rw [kM]; simp
   have ew:∀ c n,apO prog 54 (ohd (S.length+1) e (2*vars.length+j)) (.frz [ceW (F j)] c) S' n=some (ohd (S.length+1) n (2*vars.length+(j+1)),Gu S' (S.length+1) n (L1++(Cz j).map F) (flat ceW (L1++(Cz (j+1)).map F)),n+1):=fun c n=>by
    have:=Ad9 (n:=n) (c:=c) (zs:=[F j]) cd (by simp) hO (by rw [a15]; simp; omega);rw [a15,Fa,<- q7] at this;exact this
   have hO2:OwnL (Gu S' (S.length+1) n' (L1++(Cz j).map F) (flat ceW (L1++(Cz (j+1)).map F))) (S.length+1) n' (L1++(Cz (j+1)).map F):=by
    rw [q7,<- Fa]; exact hO.put (by simp)
   have hFj:F j=iQ (Zu m i r j):=by rw [hF]
   have hL:Zu m i r j=bif ((j:Int) == ((m+i:Nat):Int)) then 1 else bif ((j:Int) == (i:Int)) && !r.2.2 then sg else 0:=by
    rw [hsd]; unfold Zu;by_cases h1:j=m+i
    ·rw [if_pos h1,show ((j:Int) == ((m+i:Nat):Int))=true by simp; omega]; rfl
    ·rw [if_neg h1,show ((j:Int) == ((m+i:Nat):Int))=false by simp; omega];by_cases h2:j=i
     ·subst h2; cases r.2.2 <;> simp
     ·rw [show ((j:Int) == (i:Int))=false by simp; omega];simp [h2]
   cases q1:((j:Int) == (i:Int)) <;> cases q2:r.2.2 <;> cases q3:((j:Int) == ((m+i:Nat):Int));all_goals
    rw [q1,q2,q3] at hL
    simp only [cond_true,cond_false,Oj,Oe,Bool.and_true,kV,F0,Fq] at hL
    rw [hFj,hL] at ew
    simp (maxSteps:=10^6)+contextual(disch:=try exact dqd)only[evg1,simprocAttr,Cb,Bg,Cc,results60,e0,e1,e5,e7,e8,e9,e63,e64,c2,hw,q1,q2,q3,hB,a3u,hmi,fo,hi1,is,ew,Ao,Al,An,Bx,Bt,tkW,puW]
    exact IH (Gu S' (S.length+1) n' (L1++(Cz j).map F) (flat ceW (L1++(Cz (j+1)).map F)),n'+1,j+1,n') _ aF ⟨rfl,aE,hO2,by rw [Aa (hO.old aE)]; exact hB,by rw [Aa (hO.old aE)]; exact hSt,fun q h1 h2=>by rw [hO.old aE]; exact am q h1 h2,aP⟩
  ·have c2:decide ((j:Int)<((2*m:Nat):Int))=false:=aD
   have vw:j=2*m:=aA
   subst vw;obtain ⟨z,hz⟩:∃ z,z=sg*-r.2.1:=⟨_,rfl⟩;have hmz:Ca.wrap (sg*-r.2.1)=z:=by rw [hz]; exact Ac Za19
   have iz:=fun S tk k=>Hq S tk k z (by unfold i64; rw [hz]; rcases jd with h|h <;> rw [h] <;> omega);have ew:∀ c n,apO prog 54 (ohd (S.length+1) e (2*vars.length+2*m)) (.frz [ceW (iQ z)] c) S' n=some (ohd (S.length+1) n (2*vars.length+2*m+1),Gu S' (S.length+1) n (L1++(Cz (2*m)).map F) (flat ceW (L1++(Cz (2*m)).map F++[iQ z])),n+1):=fun c n=>by
    have:=Ad9 (n:=n) (c:=c) (zs:=[iQ z]) cd (by simp) hO (by rw [a15]; simp; omega);rw [a15] at this;exact this
   have hO2:=hO.put (n:=n') (zs:=[iQ z]) (by simp);have hLR:Jk vars m i r=L1++(Cz (2*m)).map F++[iQ z]:=by unfold Jk; rw [xw,hF,hz,hsd]
   simp (maxSteps:=10^6)+contextual(disch:=try exact dqd)only[evg1,simprocAttr,Cb,Bg,Cc,results60,e0,e1,e5,e7,e8,e9,e63,e64,c2,hmz,iz,ew,Al,An,Bx,Bt,tkW,puW];have hlen:(Jk vars m i r).length=2*vars.length+2*m+1:=by rw [hLR]; simp [lu]; omega
   have tz:=hO2;unfold OwnL at tz;rw [if_neg (by simp)] at tz;rw [Jz aA];rw [hΦ];refine ⟨_,_,n',by rw [hlen],tz.1,fun q h1 h2=>by rw [hO.old aA]; exact am q h1 h2,?_,by rw [hLR]; exact tz.2⟩;rw [Aa (hO.old aA),hSt,hE,hsd];simp only [F4,Ct,Ei,intA]
theorem Ao3 (it et:Nat) (a b c:AV) (vars:List ByteArray) (m:Nat) (fl:List Bool) (cc:Cap) (i:Nat) (r:RowT) (C:Auj S tk it et vars m fl cc i r) (hT:entAt S it et=some [a,b,c,.frz (vars.map strC) .unk,.frz (fl.map De) cc,intA m]) :
  ∃ o,cL prog 60 [.ref it et 0,.int i,.agg (rowC r)] S tk k=some o/\Aex S tk it et a b c vars m fl cc i r o:=by
 have hit:=C.hit;have hfl:=C.hfl;simp only [intA] at hT;have jx : -1000000000000<=r.2.1/\r.2.1<=1000000000000:=by simpa [inB] using C.hn
 have hwn:Ca.wrap (0 - r.2.1)=-r.2.1:=aS
 have hA:=fun v=>apB_one (tk:=tk) (c:=cc) (es:=fl.map De) (y:=[v]) C.hcap (Gq (f:=De) (fun _=>rfl) fl) rfl (by rw [Fj]; omega);have hpe:∀ cs L,entAt (put S it ⟨et,cs⟩++L) it et=some cs:=fun cs L=>Ad (Ae hit);have a4n:∀ v (e:Ent),put (S++[e]) it v=put S it v++[e]:=fun v e=>B4 hit;refine opM func60 ntmps60 ?_;cases d0:decide (-r.2.1<0)
 ·have hsg:(1:Int)=sgI r:=by unfold sgI; rw [if_neg (of_decide_eq_false d0)]
  simp (maxSteps:=10^6)+contextual(disch:=try exact dqd)only[evg1,simprocAttr,Cb,Bg,Cc,results60,rowC,hwn,d0,hT,hA,a4n,hpe,Fj,Ao];exact Mo rfl (Acx S tk k it et a b c vars m fl cc i r C 1 hsg _ rfl _ rfl rfl rfl rfl rfl rfl rfl rfl rfl rfl)
 ·have hsg:(-1:Int)=sgI r:=by unfold sgI; rw [if_pos (of_decide_eq_true d0)]
  simp (maxSteps:=10^6)+contextual(disch:=try exact dqd)only[evg1,simprocAttr,Cb,Bg,Cc,results60,rowC,hwn,d0,hT,hA,a4n,hpe,Fj,Ao];exact Mo rfl (Acx S tk k it et a b c vars m fl cc i r C (-1) hsg _ rfl _ rfl rfl rfl rfl rfl rfl rfl rfl rfl rfl)
end
end
section
open Go
def shd (id e:Nat):Nat->AV
 | 0=>.frz [] .nilc
 | k+1=>.sref id e 0 (k+1) 1
def Ko (S:List Ent) (id n:Nat) (ls:List AV) (x:AV):List Ent:=if ls=[] then S++[⟨n,[x]⟩] else put S id ⟨n,ls++[x]⟩
section
variable {P:Program} {t:TypeId} {S:List Ent} {id e n j:Nat} {ls:List AV} {x y:AV}
theorem Akq (h:apT P t=some 1) (hy:litC 1 y=some (1,[x])) (h0:ls=[]->S.length=id) (h1:ls≠[]->entAt S id e=some ls) (hb:ls.length+1<=1048576):apO P t (shd id e ls.length) y S n=some (.sref id n 0 (ls.length+1) 1,Ko S id n ls x,n+1):=by
 unfold apO Ko;rw [h]; simp only [hy];rw [if_pos ⟨aA,cZ⟩];by_cases hn:ls=[]
 ·rw [if_pos hn];subst hn;rw [<- h0 rfl]; rfl
 ·rw [if_neg hn];have hl:0<ls.length:=F8.2 hn;have:shd id e ls.length=.sref id e 0 ls.length 1:=by
   generalize ls.length=q at hl;cases q with
   | zero=>omega
   | succ q=>rfl
  rw [this];simp only [apO2,h1 hn];rw [if_pos ⟨trivial,hl⟩,if_pos ⟨aA,by simpa [roomy] using hb⟩]
theorem Xq (h0:ls=[]->S.length=id) (h1:ls≠[]->id<S.length):entAt (Ko S id n ls x) id n=some (ls++[x]):=by
 unfold Ko;by_cases hn:ls=[]
 ·rw [if_pos hn,<- h0 hn,hn]; exact Az
 ·rw [if_neg hn]; exact Ae (h1 hn)
theorem U7:(Ko S id n ls x).length=S.length+(if ls=[] then 1 else 0):=by
 unfold Ko; split <;> simp [Ai]
theorem U8 (hj:j≠id) (hl:j<S.length):nth (Ko S id n ls x) j=nth S j:=by
 unfold Ko; split
 ·exact Ax hl
 ·exact Ab (Ih hj)
end
structure PTab (S:List Ent) (I:TI) (R:List (List Q)) (B:List Nat) (F:List Bool) (vars:List ByteArray) (m W:Nat) (cc:Cap) (x:AV):Prop where
 top:entAt S I.it I.et=some [shd I.ir I.er R.length,shd I.ib I.eb B.length,x,.frz (vars.map strC) .unk,.frz (F.map De) cc,.prim (.int .i64 (m:Int))]
 nids:I.ids.length=R.length
 nb:B.length=R.length
 rowsE:R≠[]->entAt S I.ir I.er=some (I.ids.map (da W 4))
 basisE:R≠[]->entAt S I.ib I.eb=some (B.map intA)
 rowE:∀ i p r,nth I.ids i=some p->nth R i=some r->entAt S p.1 p.2=some (flat ceW r)
 rowW:∀ r ∈ R,r.length=W
 okr:∀ r ∈ R,okL WW.qF r
 tr:I.it≠I.ir
 tb:I.it≠I.ib
 rb:I.ir≠I.ib
 row:∀ p ∈ I.ids,p.1≠I.it/\p.1≠I.ir/\p.1≠I.ib
 lt:I.it<S.length/\∀ p ∈ I.ids,p.1<S.length
 rows:∀ i j p q,nth I.ids i=some p->nth I.ids j=some q->i≠j->p.1≠q.1
theorem Wc {α:Type} {l:List α} {x y:α} {i:Nat} (h:nth (l++[x]) i=some y):nth l i=some y\/i=l.length/\y=x:=by
 rw [Ag] at h ⊢;by_cases hi:i<l.length
 ·rw [C3 hi] at h; exact .inl h
 ·have:=(Fx.1 h).1;simp at this;have e:i=l.length:=aA
  rw [e,Fc (Ce _),Ol] at h;simp at h; exact .inr ⟨e,h.symm⟩
theorem PTab.add {S S':List Ent} {I:TI} {R:List (List Q)} {B:List Nat} {F:List Bool} {vars:List ByteArray} {m W:Nat} {cc cc':Cap} {x:AV} (h:PTab S I R B F vars m W cc x) {er eb id ep b:Nat} {f:Bool} {row:List Q}
  (ht:entAt S' I.it I.et=some [.sref I.ir er 0 (R.length+1) 1,.sref I.ib eb 0 (R.length+1) 1,x,.frz (vars.map strC) .unk,.frz ((F++[f]).map De) cc',.prim (.int .i64 (m:Int))])
  (hr:entAt S' I.ir er=some ((I.ids++[(id,ep)]).map (da W 4))) (hb:entAt S' I.ib eb=some ((B++[b]).map intA)) (az:entAt S' id ep=some (flat ceW row)) (hW:row.length=W) (ho:okL WW.qF row) (ji:∀ p ∈ I.ids,nth S' p.1=nth S p.1) (hlen:S.length<=S'.length)
  (hid:id≠I.it/\id≠I.ir/\id≠I.ib) (lx:S.length<=id) (eg:id<S'.length) :
  PTab S' { I with er:=er,eb:=eb,ids:=I.ids++[(id,ep)] } (R++[row]) (B++[b]) (F++[f]) vars m W cc' x:=by
 have hl1:=h.lt;refine ⟨?_,by simp [h.nids],by simp [h.nb],fun _=>hr,fun _=>hb,fun i p r hp hr=>?_,fun r hr=>?_,fun r hr=>?_,h.tr,h.tb,h.rb,fun p hp=>?_,⟨by show I.it<_; omega,fun p hp=>?_⟩,fun i j p q hp hq hij=>?_⟩
 ·simp only [Cm,O3,h.nb]; exact ht
 ·rcases Wc hp with hp|⟨e1,rfl⟩
  ·have hi:i<R.length:=by rw [<- h.nids]; have:=Br hp; exact this
   rcases Wc hr with hr|⟨e2,-⟩
   ·rw [Aa (ji p (Ak hp))]; exact h.rowE i p r hp hr
   ·omega
  ·rcases Wc hr with hr|⟨e2,rfl⟩
   ·have:=Br hr; rw [<- h.nids] at this; omega
   ·exact az
 ·rcases C5.1 hr with hr|hr
  ·exact h.rowW r hr
  ·rw [Fu.1 hr]; exact hW
 ·rcases C5.1 hr with hr|hr
  ·exact h.okr r hr
  ·rw [Fu.1 hr]; exact ho
 ·rcases C5.1 hp with hp|hp
  ·exact h.row p hp
  ·rw [Fu.1 hp]; exact hid
 ·rcases C5.1 hp with hp|hp
  ·have:=hl1.2 p hp; omega
  ·rw [Fu.1 hp]; exact eg
 ·rcases Wc hp with hp|⟨e1,rfl⟩ <;> rcases Wc hq with hq|⟨e2,rfl⟩
  ·exact h.rows i j p q hp hq hij
  ·have:=hl1.2 p (Ak hp); show p.1≠id; omega
  ·have:=hl1.2 q (Ak hq); show id≠q.1; omega
  ·omega
theorem Wa {vars:List ByteArray} {m:Nat} {r:RowT} : ∀ {l:List RowT} {i:Nat},linesR vars m i (l++[r])=linesR vars m i l++[Jk vars m (i+l.length) r]
 | [],i=>rfl
 | a :: l,i=>by simp only [Cn,linesR,Wa,Ch,Nat.add_right_comm,Sr]
theorem Rw {vars:List ByteArray} {m:Nat} : ∀ {l:List RowT} {i:Nat},(linesR vars m i l).length=l.length
 | [],i=>rfl
 | a :: l,i=>by simp only [linesR,Ch,Rw]
end
section
open Go Go.Proofs.Tryz
set_option maxHeartbeats 8000000
set_option maxRecDepth 100000
def Aer (r:RowT):Bool:=decide (sgI r<0)
structure Af1 (l:List RowT) (vars:List ByteArray):Prop where
 hm:l.length<=1000
 hv:vars.length<=1000
 hcl:∀ r ∈ l,r.1.length<=1048576
 hc:∀ r ∈ l,∀ c ∈ r.1,inB c.2=true
 hn:∀ r ∈ l,inB r.2.1=true
structure Apj (S:List Ent) (k:Nat) (l:List RowT) (vars:List ByteArray) (SS:List Ent) (tk1:List Nat) (cc:Cap) (q:Nat) (I:TI):Prop where
 hq:q<=l.length
 P:PTab SS I (linesR vars l.length 0 (l.take q)) ((Cz q).map (2*vars.length+l.length+·)) ((l.take q).map Aer) vars l.length (2*vars.length+l.length+l.length+1) cc (.frz [] .nilc)
 it:I.it=S.length
 et:I.et=k
 ir:I.ir=S.length+4
 ib:I.ib=S.length+5
 len:SS.length=S.length+1+(if q=0 then 0 else 3*q+2)
 cap:Bn tk1 cc 1=true
 fr:∀ j,j<S.length->nth SS j=nth S j
 ge:∀ p ∈ I.ids,S.length<=p.1
theorem N2 {n:Int} (h:i64 n):okW (iQ n):=(WW.Dj.whole n h)
section
variable (S:List Ent) (tk:List Nat) (k:Nat)
theorem Aip (l:List RowT) (vars:List ByteArray) (hR:Af1 l vars) (Φ:Rs->Prop)
  (fin:∀ SS n1 tk1 cc I T,Apj S k l vars SS tk1 cc l.length I->T.length=119->getT T 3=.ref S.length k 0->getT T 56=.int ((2*vars.length+l.length+l.length+1:Nat):Int)->getT T 57=.int ((0:Nat):Int)->Gd finM Φ (KA prog Tryz.f32 9 [] ⟨T,SS,tk1,n1⟩)) (T:List AV)
  (hTl:T.length=119) (t3:getT T 3=.ref S.length k 0) (t15:getT T 15=.frz (l.map rowC) .unk) (t16:getT T 16=.int (l.length:Nat)) (t17:getT T 17=.int ((0:Nat):Int)) :
  Gd finM Φ (KA prog Tryz.f32 3 [] ⟨T,S++[(⟨k,[.frz [] .nilc,.frz [] .nilc,.frz [] .nilc,.frz (vars.map strC) .unk,.frz [] .nilc,.prim (.int .i64 (l.length:Int))]⟩:Ent)],tk,k+1⟩):=by
 obtain ⟨hm,hv,hcl,hc,hn⟩:=hR;refine W3 rfl (t:=.mk) ?_;refine Dp (P:=prog) (fun x st=>st.T.length=119/\(Apj S k l vars x.1 x.2.2.1 x.2.2.2.1 x.2.2.2.2.1 x.2.2.2.2.2)/\getT st.T 3=.ref S.length k 0/\getT st.T 15=.frz (l.map rowC) .unk/\getT st.T 16=.int (l.length:Nat)/\getT st.T 17=.int (x.2.2.2.2.1:Nat)/\st.S=x.1/\st.tk=x.2.2.1/\st.n=x.2.1) (fun x=>l.length - x.2.2.2.2.1) ((S++[(⟨k,[.frz [] .nilc,.frz [] .nilc,.frz [] .nilc,.frz (vars.map strC) .unk,.frz [] .nilc,.prim (.int .i64 (l.length:Int))]⟩:Ent)]),(k+1),tk,Cap.nilc,0,(⟨S.length,k,S.length+4,0,0,0,S.length+5,0,[]⟩:TI)) ?_ ?_;case refine_2=>exact ⟨aH,⟨Cl _,⟨Az,rfl,rfl,fun h=>absurd rfl h,fun h=>absurd rfl h,fun i p r h=>bK,fun r h=>by simp [linesR] at h,fun r h=>by simp [linesR] at h,by show S.length≠S.length+4; omega,by show S.length≠S.length+5; omega,by show S.length+4≠S.length+5; omega,fun p h=>aN,⟨by simp,fun p h=>aN⟩,fun i j p q h=>bK⟩,rfl,rfl,rfl,rfl,by simp,rfl,fun j hj=>Ax hj,fun p h=>aN⟩,aH,aH,aH,aH,aH,aH,aH⟩
 rintro ⟨SS,n1,tk1,cc,q,I⟩ ⟨T,S',tk',n'⟩ ⟨hl,hI,e3,e15,e16,e17,eS,eT,eN⟩ IH;simp only at hI e3 e15 e16 e17 eS eT eN;subst eS eT eN;obtain ⟨g,hg,hT⟩:=Au hl;rw [hg] at e3 e15 e16 e17;subst hT;clear hg hl;have hI0:=hI;obtain ⟨hq,hP,a8,rn,hIr,hIb,hL,hcap,am,mf⟩:=hI;by_cases x6:q<l.length
 ·have c1:decide ((q:Int)<(l.length:Int))=true:=by simpa using x6
  have hw:Ca.wrap ((q:Int)+1)=((q+1:Nat):Int):=aK
  obtain ⟨r,hr⟩:=Af x6;have ae:nth (l.map rowC) q=some (rowC r):=by rw [Dx,hr]; rfl
  have rz:=Ak hr;have io:l.take (q+1)=l.take q++[r]:=by rw [Ag] at hr; rw [V7,hr]; rfl
  have hql:(l.take q).length=q:=aD
  obtain ⟨R,hRe⟩:∃ R,R=linesR vars l.length 0 (l.take q):=⟨_,rfl⟩;obtain ⟨B,hBe⟩:∃ B,B=(Cz q).map (2*vars.length+l.length+·):=⟨_,rfl⟩;obtain ⟨F,hFe⟩:∃ F,F=(l.take q).map Aer:=⟨_,rfl⟩;obtain ⟨W,nv⟩:∃ W,W=2*vars.length+l.length+l.length+1:=⟨_,rfl⟩;have hRl:R.length=q:=by rw [hRe,Rw,hql]
  have hBl:B.length=q:=by rw [hBe]; simp
  have hFl:F.length=q:=by rw [hFe,Fj,hql]
  rw [<- hRe,<- hBe,<- hFe,<- nv] at hP;have aa:=hP.top;rw [a8,rn,hRl,hBl] at aa;obtain ⟨thd,mb⟩:∃ x,x=shd I.ir I.er q:=⟨_,rfl⟩;obtain ⟨bhd,mz⟩:∃ x,x=shd I.ib I.eb q:=⟨_,rfl⟩;rw [<- mb,<- mz] at aa;have hb1:CkF (isB thd):=⟨by rw [mb]; cases q <;> rfl⟩;have hb2:CkF (isB bhd):=⟨by rw [mz]; cases q <;> rfl⟩;obtain ⟨S1,b8⟩:∃ X,X=S'++[(⟨n',rowC r⟩:Ent)]:=⟨_,rfl⟩;have a59:S1.length=S'.length+1:=by rw [b8]; simp
  have qo:entAt S1 S.length k=some [thd,bhd,.frz [] .nilc,.frz (vars.map strC) .unk,.frz (F.map De) cc,.prim (.int .i64 (l.length:Int))]:=by rw [b8]; exact Ad aa
  have j6:entAt S1 S'.length n'=some (rowC r):=by rw [b8]; exact Az
  obtain ⟨o,au,S2,k2,ep,rfl,hl2,bm,lw,he2⟩:=Ao3 S1 tk' (n'+1) S.length k thd bhd (.frz [] .nilc) vars l.length F cc q r ⟨aA,hcap,aA,x6,aA,aA,hcl r rz,hc r rz,hn r rz⟩ qo;have hWr:(Jk vars l.length q r).length=W:=by unfold Jk; simp only [Cm,V8,Fj,jJ,O3]; omega
  rw [hWr] at au;simp only [intA] at lw;have vz:S1.length<=S2.length:=aA
  have we:ldA prog 72 (.ref S.length k 0) S2=some thd:=by
   simp (disch:=try exact dqd) only [evs1,lw]
  have hra:=fun {all T X} (h1:loadsB all (some 30)=[(72,.tmp 25,some 26,true)]) (h2:X.length<=S2.length) (h3:decide (26<T.length)=true) (h4:getT T 25=.ref S.length k 0) (h5:getT T 26=thd)=>Av8 (P:=prog) (S:=X) h1 h2 h3 h4 h5 we;obtain ⟨flp,qp⟩:∃ x,x=AV.frz ((F++[decide (sgI r<0)]).map De) (A6 tk' cc 1):=⟨_,rfl⟩;rw [<- qp] at lw;have uw:S2.length=S'.length+3:=aA
  have hSlt:S.length<S'.length:=by rw [hL]; omega
  have na:∀ j,j<S'.length->j≠S.length->nth S2 j=nth S' j:=fun j h1 h2=>by rw [bm j aA h2,b8,Ax h1]
  have eg:(I.ids.map (da W 4)).length=q:=by rw [Fj,hP.nids,hRl]
  have jv:∀ {α:Type} {ls:List α},ls.length=q->(ls=[]↔q=0):=fun h=>by rw [<- C4,h]
  have ag:I.ids.map (da W 4)=[]->S2.length=I.ir:=fun h=>by
   have:=(jv eg).1 h;rw [uw,hL,hIr,if_pos this]
  have a7:I.ids.map (da W 4)≠[]->entAt S2 I.ir I.er=some (I.ids.map (da W 4)):=fun h=>by
   have wg:q≠0:=fun e=>h ((jv eg).2 e);rw [Aa (na I.ir (by rw [hL,hIr,if_neg wg]; omega) aA)];exact hP.rowsE fun e=>wg ((jv hRl).1 e)
  have a16:(B.map intA).length=q:=by rw [Fj,hBl]
  obtain ⟨S3,dn⟩:∃ X,X=Ko S2 I.ir k2 (I.ids.map (da W 4)) (da W 4 (S1.length+1,ep)):=⟨_,rfl⟩;have a3v:∀ t,t=72->apO prog t thd (.lit 1 [.sref (S1.length+1) ep 0 W 4]) S2 k2=some (.sref I.ir k2 0 (q+1) 1,S3,k2+1):=fun t ht=>by
   have:=Akq (P:=prog) (t:=t) (S:=S2) (id:=I.ir) (e:=I.er) (n:=k2) (ls:=I.ids.map (da W 4)) (x:=da W 4 (S1.length+1,ep)) (y:=.lit 1 [.sref (S1.length+1) ep 0 W 4]) (by rw [ht]; kernel_rfl) rfl ag a7 aA;rw [eg,<- mb,<- dn] at this;exact this
  have a3v:=a3v _ rfl;have ro:S3.length=S2.length+(if q=0 then 1 else 0):=by rw [dn,U7]; simp only [jv eg]
  have uz:∀ j,j<S2.length->j≠I.ir->nth S3 j=nth S2 j:=fun j h1 h2=>by rw [dn,U8 h2 h1]
  have md:entAt S3 S.length k=some [thd,bhd,.frz [] .nilc,.frz (vars.map strC) .unk,flp,.prim (.int .i64 (l.length:Int))]:=by rw [Aa (uz _ aA aA)]; exact lw
  obtain ⟨S4,ws⟩:∃ X,X=put S3 S.length ⟨k,[.sref I.ir k2 0 (q+1) 1,bhd,.frz [] .nilc,.frz (vars.map strC) .unk,flp,.prim (.int .i64 (l.length:Int))]⟩:=⟨_,rfl⟩;have a4o:S.length<S3.length:=aA
  have u0:S4.length=S3.length:=by rw [ws,Ai]
  have sw:entAt S4 S.length k=some [.sref I.ir k2 0 (q+1) 1,bhd,.frz [] .nilc,.frz (vars.map strC) .unk,flp,.prim (.int .i64 (l.length:Int))]:=by rw [ws]; exact Ae a4o
  have u3:∀ j,j≠S.length->nth S4 j=nth S3 j:=fun j h=>by rw [ws,Ab (Ih h)]
  have b9:=fun tk n=>Hf S4 tk n S.length k _ bhd _ flp vars l.length sw aA aA;obtain ⟨bv,hbv⟩:∃ x,x=2*vars.length+l.length+q:=⟨_,rfl⟩;have hwb:Ca.wrap (((2*vars.length+l.length:Nat):Int)+(q:Int))=(bv:Int):=by rw [Ac aC,hbv]; rfl
  have hK0:B.map intA=[]->S4.length=I.ib:=fun h=>by
   have:=(jv a16).1 h;rw [u0,ro,uw,hL,hIb,if_pos this,if_pos this]
  have dy:B.map intA≠[]->entAt S4 I.ib I.eb=some (B.map intA):=fun h=>by
   have wg:q≠0:=fun e=>h ((jv a16).2 e);rw [Aa (u3 I.ib aA),Aa (uz I.ib (by rw [uw,hL,hIb,if_neg wg]; omega) aA),Aa (na I.ib (by rw [hL,hIb,if_neg wg]; omega) aA)];exact hP.basisE fun e=>wg ((jv hRl).1 e)
  obtain ⟨S5,hS5⟩:∃ X,X=Ko S4 I.ib (k2+1) (B.map intA) (intA bv):=⟨_,rfl⟩;have a3w:∀ t,t=37->∀ c,apO prog t bhd (.frz [[.prim (.int .i64 (bv:Int))]] c) S4 (k2+1)=some (.sref I.ib (k2+1) 0 (q+1) 1,S5,k2+1+1):=fun t ht c=>by
   have:=Akq (P:=prog) (t:=t) (S:=S4) (id:=I.ib) (e:=I.eb) (n:=k2+1) (ls:=B.map intA) (x:=intA bv) (y:=.frz [[.prim (.int .i64 (bv:Int))]] c) (by rw [ht]; kernel_rfl) rfl hK0 dy aA;rw [a16,<- mz,<- hS5] at this;exact this
  have a3w:=a3w _ rfl;have a1p:S5.length=S4.length+(if q=0 then 1 else 0):=by rw [hS5,U7]; simp only [jv a16]
  have nd:∀ j,j<S4.length->j≠I.ib->nth S5 j=nth S4 j:=fun j h1 h2=>by rw [hS5,U8 h2 h1]
  have ht5:entAt S5 S.length k=some [.sref I.ir k2 0 (q+1) 1,bhd,.frz [] .nilc,.frz (vars.map strC) .unk,flp,.prim (.int .i64 (l.length:Int))]:=by rw [Aa (nd _ aA aA)]; exact sw
  obtain ⟨S6,ym⟩:∃ X,X=put S5 S.length ⟨k,[.sref I.ir k2 0 (q+1) 1,.sref I.ib (k2+1) 0 (q+1) 1,.frz [] .nilc,.frz (vars.map strC) .unk,flp,.prim (.int .i64 (l.length:Int))]⟩:=⟨_,rfl⟩;have a4p:=b8.symm;have a3x:=ws.symm;have a17:=ym.symm;simp only [rowC,Ao] at ae au a4p j6;simp (maxSteps:=10^6)+contextual(disch:=try exact dqd)only[evgm,simprocAttr,Cb,Bg,Cc,results32,e3,e15,e16,e17,c1,ae,x6,hw,a4p,j6,qo,hb1,hb2,au,vz,hra,lw,Qs,a3v,md,a3x,sw,b9,gO_refl,hwb,a3w,ht5,a17,xfs];have e1:linesR vars l.length 0 (l.take (q+1))=R++[Jk vars l.length q r]:=by rw [io,Wa,hql,El,<- hRe]
  have e2:(Cz (q+1)).map (2*vars.length+l.length+·)=B++[bv]:=by rw [kM,F4,<- hBe,hbv]; rfl
  have e3:(l.take (q+1)).map Aer=F++[Aer r]:=by rw [io,F4,<- hFe]; rfl
  have u4:∀ j,j≠S.length->nth S6 j=nth S5 j:=fun j h=>by rw [ym,Ab (Ih h)]
  have hnr:S1.length+1≠S.length/\S1.length+1≠I.ir/\S1.length+1≠I.ib:=by
   rw [hIr,hIb,a59,hL];split <;> omega
  have a3y:S6.length=S5.length:=by rw [ym,Ai]
  have ii:okL WW.qF (Jk vars l.length q r):=by
   intro x hx;unfold Jk at hx;rw [C5,C5] at hx;have jx : -1000000000000<=r.2.1/\r.2.1<=1000000000000:=by simpa [inB] using hn r rz
   have hsb:sgI r=1\/sgI r=-1:=by unfold sgI; split <;> simp
   rcases hx with (hx|hx)|hx
   ·obtain ⟨v,h|h⟩:=V9 hx
    ·have:=P3 (v:=v) (hc r rz);rw [h]; exact N2 Za14
    ·have:=P3 (v:=v) (hc r rz);rw [h]; exact N2 Za14
   ·obtain ⟨a,-,rfl⟩:=Ft.1 hx;refine N2 ?_;unfold Zu;split
    ·unfold i64; omega
    ·split
     ·unfold i64; omega
     ·unfold i64; omega
   ·rw [Fu.1 hx];exact N2 Za14
  have uo:=hP.add (S':=S6) (cc':=A6 tk' cc 1) (er:=k2) (eb:=k2+1) (id:=S1.length+1) (ep:=ep) (b:=bv) (f:=Aer r) (row:=Jk vars l.length q r)
   (by rw [a8,rn,ym,Ae aA,hRl,qp]; rfl)
   (by rw [Aa (u4 _ aA),Aa (nd _ (by rw [u0,ro,uw,hL,hIr]; split <;> omega) aA),Aa (u3 _ aA),dn,Xq ag (fun h=>Aw (a7 h)),F4]; rfl)
   (by rw [Aa (u4 _ aA),hS5,Xq hK0 (fun h=>Aw (dy h)),F4]; rfl)
   (by rw [Aa (u4 _ hnr.1),Aa (nd _ Za66 hnr.2.2),Aa (u3 _ hnr.1),Aa (uz _ aA hnr.2.1)]; exact he2)
   hWr ii
   (fun p hp=>by
    have h1:=hP.row p hp;have h2:=hP.lt.2 p hp;rw [u4 _ Za53,nd _ Za66 h1.2.2,u3 _ Za53,uz _ aA h1.2.1,na _ h2 Za53])
   (by rw [a3y,a1p,u0,ro]; omega) ⟨by rw [a8]; exact hnr.1,hnr.2.1,hnr.2.2⟩ aA (by rw [a3y,a1p,u0,ro]; omega)
  have hN:Apj S k l vars S6 (Gf tk' cc) (A6 tk' cc 1) (q+1) { I with er:=k2,eb:=k2+1,ids:=I.ids++[(S1.length+1,ep)] }:=⟨x6,by rw [e1,e2,e3,<- nv]; exact uo,a8,rn,hIr,hIb,by rw [a3y,a1p,u0,ro,uw,hL,if_neg (show ¬ q+1=0 by omega)]; split <;> omega,B3 hcap,fun j hj=>by rw [u4 _ aA,nd _ Za66 aA,u3 _ aA,uz _ aA aA,na _ aA aA]; exact am j hj,fun p hp=>by
   rcases C5.1 hp with hp|hp
   ·exact mf p hp
   ·rw [Fu.1 hp]; show S.length<=S1.length+1; omega⟩
  exact IH (S6,k2+1+1,Gf tk' cc,A6 tk' cc 1,q+1,{ I with er:=k2,eb:=k2+1,ids:=I.ids++[(S1.length+1,ep)] }) _ aF ⟨rfl,hN,aP⟩
 ·have c1:decide ((q:Int)<(l.length:Int))=false:=by simpa using x6
  have hqe:q=l.length:=aA
  subst hqe;have aa:=hP.top;rw [a8,rn] at aa;obtain ⟨thd,mb⟩:∃ x,x=shd I.ir I.er (linesR vars l.length 0 (l.take l.length)).length:=⟨_,rfl⟩;obtain ⟨bhd,mz⟩:∃ x,x=shd I.ib I.eb ((Cz l.length).map (2*vars.length+l.length+·)).length:=⟨_,rfl⟩;obtain ⟨flp,qp⟩:∃ x,x=AV.frz (((l.take l.length).map Aer).map De) cc:=⟨_,rfl⟩;rw [<- mb,<- mz,<- qp] at aa;have b9:=fun tk n=>Hf S' tk n S.length k _ bhd _ flp vars l.length aa aA aA;have hw1:Ca.wrap (((2*vars.length+l.length:Nat):Int)+(l.length:Int))=((2*vars.length+l.length+l.length:Nat):Int):=aK
  have hw2:Ca.wrap (((2*vars.length+l.length+l.length:Nat):Int)+1)=((2*vars.length+l.length+l.length+1:Nat):Int):=aK
  simp (maxSteps:=10^6)+contextual(disch:=try exact dqd)only[evgm,simprocAttr,Cb,Bg,Cc,results32,e3,e15,e16,e17,c1,aa,b9,gO_refl,hw1,hw2,xfs];exact Mo rfl (fin S' n' tk' cc I _ hI0 rfl rfl rfl rfl)
end
end
end Go.Proofs.YtcjffhadclngmaaGreat
