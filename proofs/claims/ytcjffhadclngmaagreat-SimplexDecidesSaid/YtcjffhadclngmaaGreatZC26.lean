/- Part 26. -/
import Derived.Test.YtcjffhadclngmaaGreatZC25
open Bool renaming and_eq_true->Ci,or->Cj,false_eq_true->Ef,or_eq_false_iff->Ff,or_false->Fk,true_and->F0,false_ne_true->F6,false_or->Oi,eq_iff_iff->S9
open Classical renaming byContradiction->O0
open Go.Code renaming loop->lC
open Go.IntKind renaming i64->Ca
open Go.Proofs.YtcjffhadclngmaaGreat.AV renaming bool->Bg,int->Cb,str->Cc
open Int renaming natAbs_mul->Ii
open List renaming replicate->Cf,length_cons->Ch,length_append->Cm,cons_append->Cn,length_nil->Co,mem_cons_of_mem->Cp,nil_append->Cq,mem_cons_self->Cs,map_cons->Ct,mem_cons->Cv,getElem?_map->Cw,drop_eq_nil_of_le->Cy,range->Cz,length_eq_zero_iff->C4,take_of_length_le->C6,map_nil->Ei,all_eq_true->Fb,drop_zero->Fg,length_map->Fj,take_length->Fm,mem_map->Ft,getElem?_eq_some_iff->Fx,map_append->F4,length_pos_iff->F8,take->Ib,pairwise_cons->Ie,length_take->Iu,length_replicate->I1,drop->I7,mem_of_getElem?->I8,all_cons->Uo,mem_range->Zk,getElem?_replicate->jD,map_map->jE,lt_irrefl->jH,getElem?_of_mem->kG,range_succ->kM
open Nat renaming le_refl->Ce,zero_le->Cl,mul_one->C9,zero_add->El,le_trans->Fs,mul_le_mul_right->F2,reduceAdd->F5,le_add_right->Ia,mul_le_mul->Iv,add_sub_cancel->Oh,add_mul->O7,le_of_not_lt->O9,add_assoc->Sr,mod_two_eq_zero_or_one->iF,le_mul_of_pos_left->jK,lt_irrefl->lA
open Ne renaming symm->Ih
open Option renaming map_some->C8
open Option.some renaming injEq->A8
open Prod.mk renaming injEq->Cg
open Rat renaming intCast_mul->C7,intCast_neg->K9,intCast_zero->Sv,intCast_sub->Tm,intCast_inj->iV
namespace Go.Proofs.YtcjffhadclngmaaGreat
section
open Go Go.Proofs.Tryz
set_option maxHeartbeats 8000000
set_option maxRecDepth 100000
section
variable {S S':List Ent} {I:TI} {R:List (List Q)} {B:List Nat} {F:List Bool} {vars:List ByteArray} {m W:Nat} {cc:Cap} {x:AV}
theorem PTab.frame (h:PTab S I R B F vars m W cc x) {L:Nat} (h1:I.it<L/\I.ir<L/\I.ib<L/\∀ p ∈ I.ids,p.1<L) (hl:L<=S'.length) (hS:∀ j,j<L->nth S' j=nth S j):PTab S' I R B F vars m W cc x :=
 ⟨by rw [Aa (hS _ h1.1)]; exact h.top,h.nids,h.nb,fun e=>by rw [Aa (hS _ h1.2.1)]; exact h.rowsE e,fun e=>by rw [Aa (hS _ h1.2.2.1)]; exact h.basisE e,fun i p r hp hr=>by rw [Aa (hS _ (h1.2.2.2 p (Ak hp)))]; exact h.rowE i p r hp hr,h.rowW,h.okr,h.tr,h.tb,h.rb,h.row,⟨aA,fun p hp=>by have:=h1.2.2.2 p hp; omega⟩,h.rows⟩
theorem PTab.setX (h:PTab S I R B F vars m W cc x) (x':AV):PTab (put S I.it ⟨I.et,[shd I.ir I.er R.length,shd I.ib I.eb B.length,x',.frz (vars.map strC) .unk,.frz (F.map De) cc,.prim (.int .i64 (m:Int))]⟩) I R B F vars m W cc x':=by
 have key:∀ j,j≠I.it->nth (put S I.it ⟨I.et,[shd I.ir I.er R.length,shd I.ib I.eb B.length,x',.frz (vars.map strC) .unk,.frz (F.map De) cc,.prim (.int .i64 (m:Int))]⟩) j=nth S j:=fun j hj=>Ab (Ih hj);exact ⟨Ae h.lt.1,h.nids,h.nb,fun e=>by rw [Aa (key _ h.tr.symm)]; exact h.rowsE e,fun e=>by rw [Aa (key _ h.tb.symm)]; exact h.basisE e,fun i p r hp hr=>by rw [Aa (key _ (h.row p (Ak hp)).1)]; exact h.rowE i p r hp hr,h.rowW,h.okr,h.tr,h.tb,h.rb,h.row,⟨by rw [Ai]; exact h.lt.1,fun p hp=>by rw [Ai]; exact h.lt.2 p hp⟩,h.rows⟩
end
theorem Aag {id e k:Nat} (h:k≠0):shd id e k=.sref id e 0 k 1:=by cases k with|zero=>exact absurd rfl h|succ k=>rfl
theorem Akt {P:Program} {t:TypeId} {S:List Ent} {id e n:Nat} {l zs:List Q} {c:Cap} (h:apT P t=some 4) (hz:zs≠[]) (h0:l=[]->S.length=id) (h1:l≠[]->entAt S id e=some (flat ceW l)) (hb:l.length+zs.length<=1048576):apO P t (ohd id e l.length) (.frz (zs.map ceW) c) S n=some (ohd id n (l.length+zs.length),Gu S id n l (flat ceW (l++zs)),n+1):=by
 have hr:Dk 4 (zs.map ceW)=true:=Gq (f:=ceW) Al zs;have hl:((zs.map ceW).all fun e=>e.all leafOk)=true:=by simp [Fb,An]
 have hz0:0<zs.length:=F8.2 hz;unfold Gu;by_cases hn:l=[]
 ·rw [if_pos hn];subst hn;have:=ap4n (S:=S) (n:=n) (c:=c) h hr hl (by simpa using hz0) dJ;rw [Fj] at this;simp only [Co,El,Cq];rw [<- h0 rfl,show ohd S.length n zs.length=.sref S.length n 0 zs.length 4 from Jz aA];exact this
 ·rw [if_neg hn];have c8:0<l.length:=F8.2 hn;have:=ap4m (S:=S) (n:=n) (c:=c) h hr hl (by simpa using hz0) (h1 hn) (Vn Al) c8 dJ;rw [Fj] at this;rw [Jz aA,Jz aA,Agv];exact this
theorem Ala {k:Nat} : ∀ {R:List (List Q)} {c:Q},okW c->(∀ r ∈ R,okL WW.qF r/\k<r.length)->okW (colR k R c)
 | [],_,h,_=>h
 | r :: R,c,h,hr=>by
  obtain ⟨h1,h2⟩:=hr r (by simp);obtain ⟨x,hx⟩:=Af h2;unfold colR;rw [Av hx];exact Ala (WW.Dj.minus _ _ h (h1 x (Ak hx))) fun r j3=>hr r (by simp [j3])
def BegE (S:List Ent) (k:Nat) (t':Tb) (vars:List ByteArray) (m:Nat) (r:Rs):Prop :=
 ∃ S' tk' k' I cc,r=(.ref S.length k 0,S',tk',k')/\RTab S' I t' vars m cc/\I.it=S.length/\I.et=k/\S.length<=S'.length/\∀ j,j<S.length->nth S' j=nth S j/\OutR I j
section
variable (S:List Ent) (tk:List Nat) (k:Nat)
theorem Aio (l:List RowT) (vars:List ByteArray) (c8:l≠[]) (hR:Af1 l vars) (t':Tb) (b:Bool) (K:Nat) (hK:H5 (2*vars.length+l.length+l.length) K (Ds l vars)=some (b,t')) (L0:List Ent) (n0:Nat) (tk1:List Nat) (cc:Cap) (J:TI) (hJ:Apj S k l vars L0 tk1 cc l.length J) (T:List AV)
  (hTl:T.length=119) (t3:getT T 3=.ref S.length k 0) (t56:getT T 56=.int ((2*vars.length+l.length+l.length+1:Nat):Int)) (t57:getT T 57=.int ((0:Nat):Int)) :
  Gd finM (BegE S k t' vars l.length) (KA prog Tryz.f32 9 [] ⟨T,L0,tk1,n0⟩):=by
 obtain ⟨Φ,hΦ⟩:∃ Φ,Φ=BegE S k t' vars l.length:=⟨_,rfl⟩;rw [<- hΦ];obtain ⟨hm,hv,hcl,hc,hn⟩:=hR;obtain ⟨-,zq,a8,rn,hIr,hIb,hL,hcap,a6a,mf⟩:=hJ;have bh:l.length≠0:=fun h=>c8 (C4.1 h);rw [if_neg bh] at hL;rw [Fm] at zq;obtain ⟨R,hRe⟩:∃ R,R=linesR vars l.length 0 l:=⟨_,rfl⟩;obtain ⟨B,hBe⟩:∃ B,B=(Cz l.length).map (2*vars.length+l.length+·):=⟨_,rfl⟩;obtain ⟨F,hFe⟩:∃ F,F=l.map Aer:=⟨_,rfl⟩;obtain ⟨W,nv⟩:∃ W,W=2*vars.length+l.length+l.length+1:=⟨_,rfl⟩;have hRl:R.length=l.length:=by rw [hRe,Rw]
 have hBl:B.length=l.length:=by rw [hBe]; simp
 rw [<- hRe,<- hBe,<- hFe,<- nv] at zq;rw [<- nv] at t56;obtain ⟨ct,s5⟩:∃ ct:Nat->Q,ct=Ais R (2*vars.length+l.length) l.length:=⟨_,rfl⟩;have cd:apT prog 54=some 4:=aI
 have fo:=fun S tk k=>Hq S tk k 0 aC;have hi1:=fun S tk k=>Hq S tk k 1 aC;refine W3 rfl (t:=.mk) ?_;refine Dp (P:=prog) (fun x st=>st.T.length=119/\(x.2.2.1<=W)/\(PTab x.1 J R B F vars l.length W cc (ohd (L0.length+1) x.2.2.2 x.2.2.1))/\(x.1.length=L0.length+(if x.2.2.1=0 then 0 else x.2.2.1+1))/\(x.2.2.1≠0->entAt x.1 (L0.length+1) x.2.2.2=some (flat ceW ((Cz x.2.2.1).map ct)))/\(∀ j,j<S.length->nth x.1 j=nth S j)/\getT st.T 3=.ref S.length k 0/\getT st.T 56=.int (W:Nat)/\getT st.T 57=.int (x.2.2.1:Nat)/\st.S=x.1/\st.tk=tk1/\st.n=x.2.1) (fun x=>W - x.2.2.1) (L0,n0,0,0) ?_ ?_;case refine_2=>exact ⟨aH,Cl _,zq,by simp,(fun h=>absurd rfl h),a6a,aH,aH,aH,aH,aH,aH⟩
 rintro ⟨SS,n1,q,e⟩ ⟨T,S',tk',n'⟩ ⟨hl,hq,hP,cn,hE,am,e3,e56,e57,eS,eT,eN⟩ IH;simp only at hq hP cn hE am e3 e56 e57 eS eT eN;subst eS eT eN;obtain ⟨g,hg,hT⟩:=Au hl;rw [hg] at e3 e56 e57;subst hT;clear hg hl;have IHA:=IH;clear IH;have aa:=hP.top;rw [a8,rn,hRl,hBl] at aa;obtain ⟨thd,mb⟩:∃ x,x=AV.sref J.ir J.er 0 l.length 1:=⟨_,rfl⟩;obtain ⟨bhd,mz⟩:∃ x,x=AV.sref J.ib J.eb 0 l.length 1:=⟨_,rfl⟩;obtain ⟨flp,qp⟩:∃ x,x=AV.frz (F.map De) cc:=⟨_,rfl⟩;obtain ⟨chd,x7⟩:∃ x,x=ohd (L0.length+1) e q:=⟨_,rfl⟩;rw [Aag bh,Aag bh,<- mb,<- mz,<- qp,<- x7] at aa;have ff:=hP.rowsE (fun h=>bh (by rw [<- hRl,h]; rfl));have aq:J.it<L0.length/\J.ir<L0.length/\J.ib<L0.length/\∀ p ∈ J.ids,p.1<L0.length:=⟨zq.lt.1,aA,aA,zq.lt.2⟩;have hSL:S.length<L0.length:=aA
 by_cases hqW:q<W
 ·have c1:decide ((q:Int)<(W:Int))=true:=gC
  have hw:Ca.wrap ((q:Int)+1)=((q+1:Nat):Int):=aK
  obtain ⟨c0,wc⟩:∃ c0,c0=iQ (if 2*vars.length+l.length<=q/\q<2*vars.length+l.length+l.length then 1 else 0):=⟨_,rfl⟩;have oc0:okW c0:=by rw [wc]; exact N2 (by unfold i64; split <;> omega)
  have a6b:ct q=colR q R c0:=by rw [s5,wc]; rfl
  have hw1:Ca.wrap (((2*vars.length+l.length:Nat):Int)+(l.length:Int))=((2*vars.length+l.length+l.length:Nat):Int):=aK
  have qo:∀ cs,entAt (S'++[(⟨n',cs⟩:Ent)]) S.length k=some [thd,bhd,chd,.frz (vars.map strC) .unk,flp,.prim (.int .i64 (l.length:Int))]:=fun cs=>Ad aa;have b9:=fun cs tk n=>Hf (S'++[(⟨n',cs⟩:Ent)]) tk n S.length k _ bhd _ flp vars l.length (qo cs) aA aA;have a1s:∀ cs cs',put (S'++[(⟨n',cs⟩:Ent)]) S'.length ⟨n',cs'⟩=S'++[⟨n',cs'⟩]:=fun cs cs'=>B7 rfl;have inner:∀ T,T.length=119->getT T 3=.ref S.length k 0->getT T 6=.int (q:Nat)->getT T 7=.ref S'.length n' 0->getT T 56=.int (W:Nat)->getT T 57=.int (q:Nat)->getT T 81=.int (l.length:Nat)->getT T 82=.int ((0:Nat):Int)->Gd finM Φ (KA prog Tryz.f32 15 [S'.length] ⟨T,S'++[(⟨n',ceW c0⟩:Ent)],tk',n'+1⟩):=by
   intro T hTl t3 t6 t7 t56 t57 t81 t82;refine W3 rfl (t:=.mk) ?_;refine Dp (P:=prog) (fun x st=>st.T.length=119/\(x.1<=l.length)/\(colR q R c0=colR q (R.drop x.1) x.2)/\(okW x.2)/\getT st.T 3=.ref S.length k 0/\getT st.T 6=.int (q:Nat)/\getT st.T 7=.ref S'.length n' 0/\getT st.T 56=.int (W:Nat)/\getT st.T 57=.int (q:Nat)/\getT st.T 81=.int (l.length:Nat)/\getT st.T 82=.int (x.1:Nat)/\st.S=S'++[(⟨n',ceW x.2⟩:Ent)]/\st.tk=tk'/\st.n=n'+1) (fun x=>l.length - x.1) (0,c0) ?_ ?_;case refine_2=>exact ⟨aH,Cl _,rfl,oc0,aH,aH,aH,aH,aH,aH,aH,aH,aH,aH⟩
   rintro ⟨i,v⟩ ⟨T,S',tk',n'⟩ ⟨hl,hi,hvc,ov,e3,e6,e7,e56,e57,e81,e82,eS,eT,eN⟩ IH;simp only at hi hvc ov e3 e6 e7 e56 e57 e81 e82 eS eT eN;subst eS eT eN;obtain ⟨g,hg,hT⟩:=Au hl;rw [hg] at e3 e6 e7 e56 e57 e81 e82;subst hT;clear hg hl;have du:=qo (ceW v);rw [mb] at du;by_cases o6:i<l.length
   ·have c2:decide ((i:Int)<(l.length:Int))=true:=dO
    have hwi:Ca.wrap ((i:Int)+1)=((i+1:Nat):Int):=aK
    obtain ⟨r,hr⟩:=Af (show i<R.length by omega);obtain ⟨p,hp⟩:=Af (show i<J.ids.length by rw [hP.nids]; omega);have j4:nth (I7 i (J.ids.map (da W 4))) 0=some (.sref p.1 p.2 0 W 4):=Bd (by rw [Ag] at hp ⊢; rw [Cw,hp]; rfl);have x8:entAt (S'++[(⟨n',ceW v⟩:Ent)]) p.1 p.2=some (flat ceW r):=Ad (hP.rowE i p r hp hr);have ri:entAt (S'++[(⟨n',ceW v⟩:Ent)]) J.ir J.er=some (J.ids.map (da W 4)):=Ad ff;have hrW:=hP.rowW r (Ak hr);obtain ⟨x,hx⟩:=Af (show q<r.length by omega);have ox:=hP.okr r (Ak hr) x (Ak hx);have d9:=Ap (ce:=ceW) Al hx;have hD:=fun S tk k=>Yy S tk k v x ov ox;obtain ⟨y,hy⟩:∃ y,y=(WW.qF.minus v x).1:=⟨_,rfl⟩;have oy:okW y:=by rw [hy]; exact WW.Dj.minus _ _ ov ox
    rw [<- hy] at hD;have q9:colR q R c0=colR q (R.drop (i+1)) y:=by rw [hvc,A1 hr,colR,Av hx,hy]
    have sj:Ib (S'++[(⟨n',ceW v⟩:Ent)]).length (S'++[(⟨n',ceW y⟩:Ent)])=S'++[⟨n',ceW y⟩]:=C6 (by simp);simp (maxSteps:=10^6)+contextual(disch:=try exact dqd)only[evgm,simprocAttr,Cb,Bg,Cc,results32,e3,e6,e7,e56,e57,e81,e82,c2,hwi,sj,du,ri,j4,x8,d9,hD,o6,hqW,a1s,WW.ovQ2,C9,Al,An,Bx,Bt,tkW,puW];exact IH (i+1,y) _ aF ⟨rfl,aE,q9,oy,aP⟩
   ·have c2:decide ((i:Int)<(l.length:Int))=false:=dO
    rw [Cy aA,colR,<- a6b] at hvc;subst hvc;obtain ⟨cs,j1⟩:∃ cs,cs=(Cz q).map ct:=⟨_,rfl⟩;have a3z:cs.length=q:=by rw [j1]; simp
    have ye:cs=[]↔q=0:=by rw [<- C4,a3z]
    have a6c:(Cz (q+1)).map ct=cs++[ct q]:=by rw [kM,F4,<- j1]; rfl
    obtain ⟨S2,bp⟩:∃ X,X=Gu (S'++[(⟨n',ceW (ct q)⟩:Ent)]) (L0.length+1) (n'+1) cs (flat ceW (cs++[ct q])):=⟨_,rfl⟩;have h0:cs=[]->(S'++[(⟨n',ceW (ct q)⟩:Ent)]).length=L0.length+1:=fun h=>by rw [Cm,cn,if_pos (ye.1 h)]; rfl
    have h1:cs≠[]->entAt (S'++[(⟨n',ceW (ct q)⟩:Ent)]) (L0.length+1) e=some (flat ceW cs):=fun h=>by rw [j1]; exact Ad (hE fun e=>h (ye.2 e))
    have x9:∀ c,apO prog 54 chd (.frz [ceW (ct q)] c) (S'++[(⟨n',ceW (ct q)⟩:Ent)]) (n'+1)=some (.sref (L0.length+1) (n'+1) 0 (q+1) 4,S2,n'+1+1):=fun c=>by
     have:=Akt (P:=prog) (S:=S'++[(⟨n',ceW (ct q)⟩:Ent)]) (id:=L0.length+1) (e:=e) (n:=n'+1) (l:=cs) (zs:=[ct q]) (c:=c) cd (by simp) h0 h1 (by rw [a3z]; simp; omega);rw [a3z,<- x7,<- bp] at this;exact this
    have na:∀ j,j<L0.length->nth S2 j=nth S' j:=fun j hj=>by
     have hLS:L0.length<=S'.length:=by rw [cn]; omega
     rw [bp]; unfold Gu; split
     ·rw [Ax aD,Ax aA]
     ·rw [Ab aA,Ax aA]
    have uw:S2.length=S'.length+1+(if q=0 then 1 else 0):=by rw [bp,X7]; simp only [ye]; simp
    have ta:entAt S2 (L0.length+1) (n'+1)=some (flat ceW (cs++[ct q])):=by
     rw [bp]; unfold Gu; split
     ·rename_i h;rw [<- h0 h]; exact Az
     ·rename_i h;exact Ae (Aw (h1 h))
    have a6d:entAt S2 S.length k=some [.sref J.ir J.er 0 l.length 1,bhd,chd,.frz (vars.map strC) .unk,flp,.prim (.int .i64 (l.length:Int))]:=by
     rw [Aa (na _ hSL),<- mb]; exact aa
    obtain ⟨S3,dn⟩:∃ X,X=put S2 S.length ⟨k,[.sref J.ir J.er 0 l.length 1,bhd,.sref (L0.length+1) (n'+1) 0 (q+1) 4,.frz (vars.map strC) .unk,flp,.prim (.int .i64 (l.length:Int))]⟩:=⟨_,rfl⟩;have a4q:=dn.symm;have ro:S3.length=S2.length:=by rw [dn,Ai]
    have hPf:=hP.frame (S':=S2) aq (by rw [uw,cn]; omega) na;have hPx:=hPf.setX (.sref (L0.length+1) (n'+1) 0 (q+1) 4);rw [a8,rn,hRl,hBl,Aag bh,Aag bh,<- mz,<- qp,a4q] at hPx;have a6e:S3.length=L0.length+(if q+1=0 then 0 else q+1+1):=by
     rw [ro,uw,cn,if_neg (show ¬ q+1=0 by omega)];by_cases h:q=0
     ·rw [if_pos h,if_pos h]; omega
     ·rw [if_neg h,if_neg h]; omega
    simp (maxSteps:=10^6)+contextual(disch:=try exact dqd)only[evgm,simprocAttr,Cb,Bg,Cc,results32,e3,e6,e7,e56,e57,e81,e82,c2,hw,du,x9,a6d,a4q,Al,An,Bx,Bt,tkW,puW];exact IHA (S3,n'+1+1,q+1,n'+1) _ aF ⟨rfl,aE,hPx,a6e,fun _=>by rw [dn,Ah aE,a6c]; exact ta,fun j hj=>by rw [dn,Ab aE,na j aE]; exact am j hj,aP⟩
  cases d1:decide ((q:Int) >= ((2*vars.length+l.length:Nat):Int)) <;> cases d2:decide ((q:Int)<((2*vars.length+l.length+l.length:Nat):Int));all_goals
   have hcv:c0=iQ (if decide ((q:Int) >= ((2*vars.length+l.length:Nat):Int))=true/\decide ((q:Int)<((2*vars.length+l.length+l.length:Nat):Int))=true then 1 else 0):=by
    rw [wc]; simp only [decide_eq_true_eq,ge_iff_le,Int.ofNat_le,Int.ofNat_lt]
   rw [d1,d2] at hcv
   simp only [Ef,false_and,and_false,and_self,if_true,if_false] at hcv
   rw [hcv] at inner
   rw [mb] at qo
   simp (maxSteps:=10^6)+contextual(disch:=try exact dqd)only[evgm,simprocAttr,Cb,Bg,Cc,results32,e3,e56,e57,c1,qo,b9,gO_refl,hw1,d1,d2,fo,hi1,ovW,WW.ovQ2,a1s,xfs,Al,An,Bx,Bt,tkW,puW]
   exact Mo rfl (inner _ rfl rfl rfl rfl rfl rfl rfl rfl)
 ·have c1:decide ((q:Int)<(W:Int))=false:=gC
  have hqe:q=W:=aA
  have hW0:W≠0:=aA
  subst hqe;have fm:=hE hW0;have zx:((Cz q).map ct).length=q:=by simp
  obtain ⟨I2,zu⟩:∃ I2:TI,I2={ J with ic:=L0.length+1,ec:=e }:=⟨_,rfl⟩;have hbe:Ds l vars={ vars:=vars.length,real:=2*vars.length+l.length,rows:=R,cost:=(Cz q).map ct,basis:=B,flip:=F,fl:=false }:=by
   unfold Ds;simp only [hRe,hBe,hFe,s5,nv];rfl
  have oct:okL WW.qF ((Cz q).map ct):=by
   intro x hx;obtain ⟨a,ha,rfl⟩:=Ft.1 hx;rw [s5];unfold Ais;exact Ala (N2 (by unfold i64; split <;> omega)) fun r hr=>⟨hP.okr r hr,by rw [hP.rowW r hr]; exact Zk.1 ha⟩
  have hLS:L0.length+1<S'.length:=Aw fm;have hRT:RTab S' I2 (Ds l vars) vars l.length cc:=by
   rw [hbe,zu];refine ⟨?_,hP.nids,?_,fun i p r hp hr=>?_,fun r hr=>?_,?_,?_,hP.nb,⟨hP.tr,by show J.it≠L0.length+1; omega,hP.tb,by show J.ir≠L0.length+1; omega,hP.rb,by show L0.length+1≠J.ib; omega,fun p hp=>?_,hP.rows⟩,hP.okr,oct,?_,?_,?_,?_⟩
   ·rw [a8,rn];simp only [hRl,zx,intA];rw [<- mb,<- mz,<- qp,<- Jz (id:=L0.length+1) (ep:=e) hW0,<- x7]; exact aa
   ·simp only [zx]; exact ff
   ·exact hP.rowE i p r hp hr
   ·simp only [zx]; exact hP.rowW r hr
   ·exact fm
   ·exact hP.basisE fun h=>bh (by rw [<- hRl,h]; rfl)
   ·have h1:=hP.row p hp;exact ⟨h1.1,h1.2.1,by show p.1≠L0.length+1; have:=aq.2.2.2 p hp; omega,h1.2.2⟩
   ·simp only [zx]; omega
   ·simp only [hRl]; omega
   ·simp only [hRl]; omega
   ·simp only [zx]; omega
  have vp:2*vars.length+l.length+l.length<=(Ds l vars).cost.length:=by rw [hbe]; simp only [zx]; omega
  obtain ⟨r,au,S3,k3,I3,rfl,dz,ba,h3t,h3e,de⟩:=Aa5 S' tk' n' I2 (Ds l vars) t' vars l.length cc _ K b hRT vp hK;have h2t:I2.it=S.length:=by rw [zu]; exact a8
  have h2e:I2.et=k:=by rw [zu]; exact rn
  rw [h2t,h2e] at au;have b9:=fun tk n=>Hf S' tk n S.length k _ bhd _ flp vars l.length aa aA aA;have hw1:Ca.wrap (((2*vars.length+l.length:Nat):Int)+(l.length:Int))=((2*vars.length+l.length+l.length:Nat):Int):=aK
  simp (maxSteps:=10^6)+contextual(disch:=try exact dqd)only[evgm,simprocAttr,Cb,Bg,Cc,results32,e3,e56,e57,c1,aa,b9,gO_refl,hw1,au,dz,R4,xfs];rw [hΦ];refine ⟨S3,_,k3,I3,cc,rfl,ba,h3t.trans h2t,h3e.trans h2e,aA,fun j hj=>?_⟩;have cl:OutR I2 j:=by
   rw [zu];exact ⟨by show j≠J.it; omega,by show j≠J.ir; omega,by show j≠L0.length+1; omega,by show j≠J.ib; omega,fun p hp=>by have:=mf p hp; omega⟩
  exact ⟨by rw [(de j aA cl).1]; exact am j hj,(de j aA cl).2⟩
end
section
variable (S:List Ent) (tk:List Nat) (k:Nat)
theorem Pt (l:List RowT) (c8:l≠[]) (hf:fewC l) (uj:l.length<=64) (hR:Af1 l (Bh l)) (t':Tb) (b:Bool) (K:Nat) (hK:H5 (2*(Bh l).length+l.length+l.length) K (Ds l (Bh l))=some (b,t')) :
  ∃ r,cL prog 32 [Ar l] S tk k=some r/\BegE S k t' (Bh l) l.length r:=by
 have hn:=fun S tk k=>Pu S tk k l hf uj;simp only [Ar,Aq] at hn;refine opM func32 ntmps32 ?_;simp (maxSteps:=10^6)+contextual(disch:=try exact dqd)only[evg1,simprocAttr,Cb,Bg,Cc,results32,Ar,hn];exact Mo rfl (Aip S tk k l (Bh l) hR _ (fun SS n1 tk1 cc I T hI hTl t3 t56 t57=>Aio S k l (Bh l) c8 hR t' b K hK SS n1 tk1 cc I hI T hTl t3 t56 t57) _ rfl rfl rfl rfl rfl)
theorem T3 (I:TI) (t:Tb) (vars:List ByteArray) (m:Nat) (cc:Cap) (hT:RTab S I t vars m cc):cL prog 33 [.ref I.it I.et 0] S tk k=some (.bool (Gw t),S,tk,k):=by
 have aa:=hT.top;have hW:=hT.bigW;have fm:=hT.costE;have hp:=hT.posW;obtain ⟨z,hz⟩:=Af (show t.cost.length - 1<t.cost.length by omega);have jw:=Ap (ce:=ceW) Al hz;have hs:=fun S tk k=>M7 S tk k z;have ig:Ca.wrap ((t.cost.length:Int) - 1)=((t.cost.length - 1:Nat):Int):=aS
 have ku:t.cost.length - 1<t.cost.length:=aA
 refine opS func33 ntmps33 ?_;simp (maxSteps:=10^6)+contextual(disch:=try exact dqd)only[evs1,simprocAttr,Cb,Bg,Cc,results33,aa,fm,jw,ig,ku,hs,C9,Al,An,Bx,Bt,tkW,puW];rw [show Gw t=(sgn z == 0) by unfold Gw; rw [Av hz]]
end
theorem Aaa {l:List RowT} (h0:sysE l=0):Af1 l (Bh l):=by
 obtain ⟨f1,f2,f3,f4⟩:=Gb h0;have hr:=Lb (vars:=Bh l) f4 Jr;exact ⟨aA,aA,fun r h=>cV,fun r h c hc=>by have:=(hr r h).2.cof c hc; simp [inB]; omega,fun r h=>by have:=(hr r h).2.con; simp [inB]; omega⟩
section
variable (S:List Ent) (tk:List Nat) (k:Nat)
theorem Yt (l:List RowT) (hl:∀ r ∈ l,r.1.length<=1048576) (h0:sysE l≠0):cL prog 14 [Ar l] S tk k=some (.tup [.bool false,.int (sysE l)],S,tk,k):=by
 have hC:=fun S tk k=>Ge S tk k l hl;simp only [Ar] at hC;have c1:(sysE l != 0)=true:=aW
 refine opP func14 ntmps14 (hp3:=rfl) ?_;simp (maxSteps:=10^6)+contextual(disch:=try exact dqd)only[ev1,simprocAttr,Cb,Bg,Cc,results14,Ar,hC,c1]
theorem W5 {l:List RowT} (hl:l.length<=13) (hne:l≠[]) (h0:sysE l=0):∃ b:Bool,(b=true↔∃ v,Sat v l)/\∀ S tk k,cL prog 14 [Ar l] S tk k=some (.tup [.bool b,.int 0],S,tk,k):=by
 obtain ⟨f1,f2,f3,f4⟩:=Gb h0;have hr:=Lb (vars:=Bh l) f4 Jr;obtain ⟨b,t',hK,-,hS⟩:=Ab6 (l:=l) (W1 l) hl hr (Ce _);refine ⟨Gw t',hS,fun S tk k=>?_⟩;have hC:=fun S tk k=>Ge S tk k l (fun r h=>cV);rw [h0] at hC;have c1:((0:Int) != 0)=false:=rfl;obtain ⟨r,hB,S',tk',k',I,cc,rfl,hT,a8,rn,-,-⟩:=Pt [] [] 0 l hne f1 f2 (Aaa h0) t' b _ hK;have hF:=T3 S' tk' k' I t' _ _ cc hT;rw [a8,rn] at hF;simp only [Ar,Co] at hC hB hF;refine opP func14 ntmps14 (hp3:=rfl) ?_;simp (maxSteps:=10^6)+contextual(disch:=try exact dqd)only[evm,simprocAttr,Cb,Bg,Cc,results14,Ar,hC,hB,hF,c1]
end
end
section
open Go Go.Proofs.Tryz
set_option maxHeartbeats 8000000
set_option maxRecDepth 100000
def Mg (real:Nat) (t:Tb) (i:Nat):Tb:=if at_ 0 t.basis i<real then t else match nzF (Ba t i) real 0 with|some k=>pivR t i k|none=>t
def cleanR (real:Nat):Nat->Nat->Tb->Tb
 | 0,_,t=>t
 | n+1,i,t=>cleanR real n (i+1) (Mg real t i)
theorem Adf {row:List Q} {c i:Nat} : ∀ {l:List (List Q)} {k:Nat},(rowsR row c i k l).length=l.length
 | [],_=>rfl
 | r :: l,k=>by simp only [rowsR,Ch,Adf]
theorem Ac8 {t:Tb} {i c:Nat} : (pivR t i c).rows.length=t.rows.length:=by unfold pivR; simp only [Adf,Aj]
def Wd (t:Tb) (W:Nat):Prop:=t.cost.length=W/\∀ r ∈ t.rows,r.length=W
theorem Ahz {row:List Q} {c i W:Nat} (hr:row.length=W):∀ {l:List (List Q)} {k:Nat},(∀ r ∈ l,r.length=W)->∀ r ∈ rowsR row c i k l,r.length=W
 | [],_,_=>fun r h=>by simp [rowsR] at h
 | a :: l,k,h=>fun r ae=>by
  have ha:=h a (by simp);rcases Cv.1 ae with rfl|h2
  ·split
   ·exact ha
   ·rw [Qx aA,ha]
  ·exact Ahz hr (fun r hr=>h r (by simp [hr])) r h2
theorem Atr {t:Tb} {i c W:Nat} (h:Wd t W) (hi:i<t.rows.length):Wd (pivR t i c) W:=by
 obtain ⟨row,az⟩:=Af hi;have hl:=h.2 row (Ak az);have ho:(ovR (at_ q0 (Ba t i) c) (Ba t i)).length=W:=by unfold Ba; rw [Av az,Am5,hl]
 refine ⟨?_,Ahz ho fun r hr=>?_⟩
 ·show (lsR _ _ _).length=W;rw [Qx (by rw [ho,h.1]),h.1]
 ·rcases Bk hr with rfl|hr
  ·exact ho
  ·exact h.2 r hr
theorem Ak8 {real:Nat} {t:Tb} {i W:Nat} (h:Wd t W) (hi:i<t.rows.length):Wd (Mg real t i) W/\(Mg real t i).rows.length=t.rows.length:=by
 unfold Mg;split
 ·exact ⟨h,rfl⟩
 ·split
  ·exact ⟨Atr h hi,Ac8⟩
  ·exact ⟨h,rfl⟩
theorem Abr {real W:Nat} : ∀ {n i:Nat} {t:Tb},Wd t W->i+n<=t.rows.length->Wd (cleanR real n i t) W/\(cleanR real n i t).rows.length=t.rows.length
 | 0,_,_,h,_=>⟨h,rfl⟩
 | n+1,i,t,h,hi=>by
  obtain ⟨h1,h2⟩:=Ak8 (real:=real) h (show i<t.rows.length by omega);obtain ⟨h3,h4⟩:=Abr (real:=real) (n:=n) (i:=i+1) h1 aA;exact ⟨h3,h4.trans h2⟩
section
variable (S:List Ent) (tk:List Nat) (k:Nat)
theorem Aka (I:TI) (t:Tb) (vars:List ByteArray) (m:Nat) (cc:Cap) (ag:RTab S I t vars m cc) (hv:vars.length<=1000) (hm:m<=1000) (iw:2*vars.length+m<=t.cost.length) :
  ∃ r,cL prog 36 [.ref I.it I.et 0] S tk k=some r/\RetR S tk I (cleanR (2*vars.length+m) t.rows.length 0 t) vars m cc (.tup []) r:=by
 obtain ⟨real,tm⟩:∃ real,real=2*vars.length+m:=⟨_,rfl⟩;obtain ⟨W,nv⟩:∃ W,W=t.cost.length:=⟨_,rfl⟩;obtain ⟨m0,bh⟩:∃ m0,m0=t.rows.length:=⟨_,rfl⟩;rw [<- tm,<- bh];obtain ⟨Φ,hΦ⟩:∃ Φ,Φ=RetR S tk I (cleanR real m0 0 t) vars m cc (.tup []):=⟨_,rfl⟩;rw [<- hΦ];have yl:=ag.top;rw [<- bh] at yl;have hM:=ag.bigM;have hW:=ag.bigW;refine opM func36 ntmps36 ?_;simp (maxSteps:=10^6)+contextual(disch:=try exact dqd)only[evgm,simprocAttr,Cb,Bg,Cc,results36,yl];refine Dp (P:=prog) (fun x st=>st.T.length=45/\(x.2.2.1<=m0)/\(cleanR real m0 0 t=cleanR real (m0 - x.2.2.1) x.2.2.1 x.2.2.2.1)/\(RTab x.1 x.2.2.2.2 x.2.2.2.1 vars m cc)/\(x.2.2.2.1.rows.length=m0)/\(x.2.2.2.1.cost.length=W)/\(x.2.2.2.2.it=I.it/\x.2.2.2.2.et=I.et)/\(S.length<=x.1.length)/\(∀ j,j<S.length->OutR I j->nth x.1 j=nth S j/\OutR x.2.2.2.2 j)/\getT st.T 0=.ref I.it I.et 0/\getT st.T 8=.int (m0:Nat)/\getT st.T 9=.int (x.2.2.1:Nat)/\st.S=x.1/\st.tk=tk/\st.n=x.2.1) (fun x=>m0 - x.2.2.1) (S,k,0,t,I) ?_ ?_;case refine_2=>exact ⟨rfl,Cl _,rfl,ag,bh.symm,nv.symm,⟨rfl,rfl⟩,Ce _,fun j _ h=>⟨rfl,h⟩,rfl,rfl,rfl,rfl,rfl,rfl⟩
 rintro ⟨SS,n1,i,t1,J⟩ ⟨T,S',tk',n'⟩ ⟨hl,hi,hC,hT,bz,hcl,hJ,cn,am,e0,e8,e9,eS,eT,eN⟩ IH;simp only at hi hC hT bz hcl hJ cn am e0 e8 e9 eS eT eN;subst eS eT eN;obtain ⟨g,hg,hT⟩:=Au hl;rw [hg] at e0 e8 e9;subst hT;clear hg hl;have IHA:=IH;clear IH;obtain ⟨kx,ma⟩:=hJ;have cn:S.length<=S'.length:=cn;have aa:=hT.top;simp only [kx,ma,bz,hcl] at aa;by_cases o6:i<m0
 ·have c1:decide ((i:Int)<(m0:Int))=true:=dO
  have hw:Ca.wrap ((i:Int)+1)=((i+1:Nat):Int):=aK
  have jf:=hT.basisE;have ff:=hT.rowsE;simp only [hcl] at ff;obtain ⟨b,hb⟩:=Af (show i<t1.basis.length by rw [hT.nb]; omega);have hb2:nth (I7 i (t1.basis.map intA)) 0=some (.prim (.int .i64 (b:Int))):=Bd (by rw [Ag] at hb ⊢; rw [Cw,hb]; rfl);have b9:=fun tk n=>Hf S' tk n I.it I.et _ _ _ _ vars m aa aA aA;rw [<- tm] at b9;simp only [intA] at aa;have hCs:cleanR real (m0 - i) i t1=cleanR real (m0 - (i+1)) (i+1) (Mg real t1 i):=by
   rw [show m0 - i=(m0 - (i+1))+1 by omega]; rfl
  by_cases hbr:b<real
  ·have c2:decide ((b:Int)<(real:Int))=true:=gD
   have hS:Mg real t1 i=t1:=by unfold Mg; rw [Av hb,if_pos hbr]
   rw [hCs,hS] at hC;simp (maxSteps:=10^6)+contextual(disch:=try exact dqd)only[evgm,simprocAttr,Cb,Bg,Cc,results36,e0,e8,e9,c1,c2,hw,aa,jf,hb2,o6,b9,gO_refl,xfs,C9];exact Ya37
  have c2:decide ((b:Int)<(real:Int))=false:=gD
  obtain ⟨row,az⟩:=Af (show i<t1.rows.length by omega);obtain ⟨pi,gv⟩:=Af (show i<J.ids.length by rw [hT.nids]; omega);have a6f:=hT.rowW row (Ak az);rw [hcl] at a6f;have j4:nth (I7 i (J.ids.map (da W 4))) 0=some (.sref pi.1 pi.2 0 W 4):=Bd (by rw [Ag] at gv ⊢; rw [Cw,gv]; rfl);have a4r:=hT.rowE i pi row gv az;have hS:Mg real t1 i=match nzF row real 0 with|some k=>pivR t1 i k|none=>t1:=by unfold Mg Ba; rw [Av hb,if_neg hbr,Av az]
  rw [hCs,hS] at hC;simp (maxSteps:=10^6)+contextual(disch:=try exact dqd)only[evgm,simprocAttr,Cb,Bg,Cc,results36,e0,e8,e9,c1,c2,aa,jf,hb2,o6,b9,gO_refl,xfs,C9];refine Dp (P:=prog) (fun x st=>st.T.length=45/\(x<=real)/\(nzF row real 0=nzF row (real - x) x)/\getT st.T 0=.ref I.it I.et 0/\getT st.T 2=.int (i:Nat)/\getT st.T 8=.int (m0:Nat)/\getT st.T 9=.int (i:Nat)/\getT st.T 23=.int (real:Nat)/\getT st.T 24=.int (x:Nat)/\st.S=S'/\st.tk=tk'/\st.n=n') (fun x=>real - x) (0) ?_ ?_;case refine_2=>exact ⟨rfl,Cl _,rfl,rfl,rfl,rfl,rfl,rfl,rfl,rfl,rfl,rfl⟩
  rintro j ⟨T,S',tk',n'⟩ ⟨hl,hj,hz,e0,e2,e8,e9,e23,e24,eS,eT,eN⟩ IH;subst eS eT eN;obtain ⟨g,hg,hT⟩:=Au hl;rw [hg] at e0 e2 e8 e9 e23 e24;subst hT;clear hg hl;have cn:S.length<=S'.length:=cn;have am:∀ j,j<S.length->OutR I j->nth S' j=nth S j/\OutR J j:=am;by_cases rk:j<real
  ·have c3:decide ((j:Int)<(real:Int))=true:=cQ
   have ey:Ca.wrap ((j:Int)+1)=((j+1:Nat):Int):=aK
   have kw:j<W:=aA
   obtain ⟨x,hx⟩:=Af (show j<row.length by omega);have d9:=Ap (ce:=ceW) Al hx;have hs:=fun S tk k=>M7 S tk k x;have hzu:nzF row (real - j) j=if sgn x=0 then nzF row (real - (j+1)) (j+1) else some j:=by
    rw [show real - j=(real - (j+1))+1 by omega];simp only [nzF,Av hx]
   rw [hzu] at hz;by_cases hsx:sgn x=0
   ·have c4:(sgn x != 0)=false:=by simpa using hsx
    rw [if_pos hsx] at hz;simp (maxSteps:=10^6)+contextual(disch:=try exact dqd)only[evgm,simprocAttr,Cb,Bg,Cc,results36,e0,e2,e8,e9,e23,e24,c3,c4,ey,aa,ff,j4,a4r,d9,o6,kw,hs,C9,Al,An,Bx,Bt,tkW,puW];exact IH (j+1) _ aF ⟨rfl,aE,hz,aP⟩
   ·have c4:(sgn x != 0)=true:=by simpa using hsx
    rw [if_neg hsx] at hz;rw [hz] at hC;simp only at hC;obtain ⟨r,jc,S3,k3,J3,rfl,dz,ba,a3r,a3s,de⟩:=Aa6 S' tk' n' J t1 vars m cc i j hT aA aA;rw [kx,ma] at jc;have zw:(pivR t1 i j).cost.length=W:=by rw [Ac7 hT aA]; exact hcl
    have a1o:∀ q,q<S.length->OutR I q->nth S3 q=nth S q/\OutR J3 q:=fun q h1 h2=>by
     obtain ⟨a1,a2⟩:=am q h1 h2;obtain ⟨b1,b2⟩:=de q aA a2;exact ⟨by rw [b1]; exact a1,b2⟩
    simp (maxSteps:=10^6)+contextual(disch:=try exact dqd)only[evgm,simprocAttr,Cb,Bg,Cc,results36,e0,e2,e8,e9,e23,e24,c3,c4,hw,aa,ff,j4,a4r,d9,o6,kw,hs,jc,C9,Al,An,Bx,Bt,tkW,puW];exact IHA (S3,k3,i+1,pivR t1 i j,J3) _ aF ⟨rfl,aE,hC,ba,Ac8.trans bz,zw,⟨a3r.trans kx,a3s.trans ma⟩,by show S.length<=S3.length; omega,a1o,aP⟩
  ·have c3:decide ((j:Int)<(real:Int))=false:=cQ
   rw [show real - j=0 by omega,nzF] at hz;rw [hz] at hC;simp only at hC;simp (maxSteps:=10^6)+contextual(disch:=try exact dqd)only[evgm,simprocAttr,Cb,Bg,Cc,results36,e0,e2,e8,e9,e23,e24,c3,hw];exact Ya37
 ·have c1:decide ((i:Int)<(m0:Int))=false:=dO
  rw [show m0 - i=0 by omega,cleanR] at hC;simp (maxSteps:=10^6)+contextual(disch:=try exact dqd)only[evgm,simprocAttr,Cb,Bg,Cc,results36,e0,e8,e9,c1];rw [hΦ,hC];exact ⟨_,_,J,rfl,cn,hT,kx,ma,am⟩
end
end
section
open Go
section
variable {m N L:Nat} {t0:Simp.Tab}
def FitW (m N:Nat) (t0:Simp.Tab):Prop:=∀ t,Reach m N t0 t->(∀ c,c<N->Ji Hc m N c t)/\∀ r s,r<m->s<N->t.T r s≠0->Td Hc m N t r s
theorem Alt {M Mc:Nat} (hM:1<=M) (hI:Ints m N M Mc t0) (hX:2*(bndX m M Mc*bndX m M Mc)<10000 ^ 200):FitW m N t0:=fun _ hr=>⟨fun _ hc=>Hm hM hI hX hr hc,fun _ _ h1 h2 h3=>Jm hM hI hX hr h1 h2 h3⟩
theorem FitW.fits {t1:Simp.Tab} (hs:FitW m N t0) (h:Reach m N t0 t1):Asb m N L t1:=fun K R h0=>by
 exact Ya1z
structure Afr (m N L:Nat) (t0:Simp.Tab) (t t':Tb):Prop where
 ok:TOk gW m N t'
 reach:Reach m N t0 (tabV t')
 set:Simp.Settled m N L m (tabV t')
 ker:∀ x,Simp.Ker m N (tabV t') x↔Simp.Ker m N (tabV t) x
theorem P2 (hs:FitW m N t0) (hLN:L<=N):∀ (n k:Nat) {t:Tb},k+n=m->TOk gW m N t->Reach m N t0 (tabV t)->Simp.Settled m N L k (tabV t)->Afr m N L t0 t (cleanR L n k t)
 | 0,k,t,hk,ht,hr,hS=>by
  have:k=m:=aA
  subst this;exact ⟨ht,hr,hS,fun _=>Iff.rfl⟩
 | n+1,k,t,hk,ht,hr,hS=>by
  have c9:k<m:=aA
  have bl:=Ep ht c9;show Afr m N L t0 t (cleanR L n (k+1) (Mg L t k));unfold Mg;by_cases hb:at_ 0 t.basis k<L
  ·rw [if_pos hb];exact P2 hs hLN n (k+1) aA ht hr (hS.skip (.inl hb))
  ·rw [if_neg hb];have hz:=Am2 Em (ht.okr _ bl) (n:=L) (k:=0) (by rw [ht.rowW _ bl]; omega);cases hc:nzF (Ba t k) L 0 with
   | none =>
    rw [hc] at hz;simp only;exact P2 hs hLN n (k+1) aA ht hr (hS.skip (.inr fun j hj=>hz j (Cl _) aA))
   | some c =>
    rw [hc] at hz;obtain ⟨-,hcL,hne⟩:=hz;simp only;obtain ⟨x1,x2⟩:=Anc ht c9 (show c<N+1 by omega) hne ((hs _ hr).2 k c c9 aA hne);have hB:L<=(tabV t).B k:=O9 hb;have h:=P2 hs hLN n (k+1) (t:=pivR t k c) aA x1 (by rw [x2]; exact hr.piv c9 aA hne) Za74;refine ⟨h.ok,h.reach,h.set,fun x=>?_⟩;rw [h.ker x,x2]; exact Simp.piv_ker c9 hne x
end
section
variable {F:Fld} {G:Q->Prop} {fit:Rat->Prop} {m N L M Mc Mf:Nat} {t0:Simp.Tab} {f:Nat->Rat}
def bndY (m M Mc Mf:Nat):Nat:=(m+1)*((Mf+1)*bndX m M Mc)
theorem Anl (hM:1<=M) (hI:Ints m N M Mc t0) {t:Simp.Tab} (h:Reach m N t0 t) (hf:∀ j,j<N+1->∃ z:Int,f j=((z:Int):Rat)/\z.natAbs<=Mf) {j:Nat} (hj:j<N+1) :
  ∃ y0:Int,y0≠0/\y0.natAbs<=bndX m M Mc/\(∀ i,i<m->∃ y:Int,t.T i j=((y:Int):Rat) / ((y0:Int):Rat)/\y.natAbs<=bndX m M Mc)/\∀ k,k<=m->∃ w:Int,Simp.red t f k j=((w:Int):Rat) / ((y0:Int):Rat)/\w.natAbs<=(k+1)*(Mf*bndX m M Mc):=by
 obtain ⟨y0,h1,h2,h3,-⟩:=Hv hM hI h hj;refine ⟨y0,h1,h2,h3,fun k=>?_⟩;have hy:((y0:Int):Rat)≠0:=Gk h1;induction k with
 | zero =>
  intro _;obtain ⟨z,e1,e2⟩:=hf j hj;refine ⟨z*y0,?_,by rw [Ii,El,Nat.one_mul]; exact Iv e2 h2⟩;show f j=_;rw [e1,C7]; grind
 | succ k ih =>
  intro hk;obtain ⟨w,e1,e2⟩:=ih aA;obtain ⟨y,e3,e4⟩:=h3 k aA;have hb:Simp.red t f k (t.B k)=f (t.B k):=Za6w
  obtain ⟨z,e5,e6⟩:=hf (t.B k) (by have:=h.fit.lt k aA; omega);refine ⟨w - z*y,?_,?_⟩
  ·show Simp.red t f k j - Simp.red t f k (t.B k)*t.T k j=_;rw [e1,hb,e5,e3,Tm,C7]; grind
  ·have h7:(z*y).natAbs<=Mf*bndX m M Mc:=Za31
   have h8:(w - z*y).natAbs<=w.natAbs+(z*y).natAbs:=Int.natAbs_sub_le _ _;have h9:(k+1+1)*(Mf*bndX m M Mc)=(k+1)*(Mf*bndX m M Mc)+Mf*bndX m M Mc:=by rw [O7 (k+1),Nat.one_mul]
   omega
theorem Anj (hM:1<=M) (hI:Ints m N M Mc t0) (hX:2*(bndY m M Mc Mf*bndY m M Mc Mf)<10000 ^ 200) {t:Simp.Tab} (h:Reach m N t0 t) (hf:∀ j,j<N+1->∃ z:Int,f j=((z:Int):Rat)/\z.natAbs<=Mf) {k:Nat} (hk:k<m) {j:Nat} (hj:j<N+1) :
  Hc (Simp.red t f k (t.B k)*t.T k j)/\Hc (Simp.red t f k j - Simp.red t f k (t.B k)*t.T k j):=by
 obtain ⟨y0,h1,h2,h3,h4⟩:=Anl hM hI h hf hj;have hb:Simp.red t f k (t.B k)=f (t.B k):=Za6w
 obtain ⟨z,e5,e6⟩:=hf (t.B k) (by have:=h.fit.lt k aA; omega);obtain ⟨y,e3,e4⟩:=h3 k hk;have hy:((y0:Int):Rat)≠0:=Gk h1;have hle:bndX m M Mc<=bndY m M Mc Mf:=by
  unfold bndY;calc bndX m M Mc=1*(1*bndX m M Mc):=by omega
   _<=(m+1)*((Mf+1)*bndX m M Mc):=Iv aA (F2 _ aA)
 have qy:∀ q,q<=m+1->q*(Mf*bndX m M Mc)<=bndY m M Mc Mf:=fun q hq=>Iv hq (F2 _ aA);constructor
 ·have:Simp.red t f k (t.B k)*t.T k j=((z*y:Int):Rat) / ((y0:Int):Rat):=by rw [hb,e5,e3,C7]; grind
  rw [this];refine Pc h1 (X:=bndY m M Mc Mf) ?_ aA hX;have h7:(z*y).natAbs<=Mf*bndX m M Mc:=Za31
  have:=qy 1 aA;omega
 ·obtain ⟨w,e1,e2⟩:=h4 (k+1) hk;rw [show Simp.red t f k j - Simp.red t f k (t.B k)*t.T k j=Simp.red t f (k+1) j from rfl,e1];exact Pc h1 (X:=bndY m M Mc Mf) (Fs e2 (qy _ aA)) aA hX
end
end
section
open Go Go.Proofs.Tryz
set_option maxRecDepth 100000
def fndI (s:ByteArray):Nat->List ByteArray->Int
 | _,[]=>-1
 | k,x :: l=>if sEq x s=true then k else fndI s (k+1) l
def inV (vars:List ByteArray) (cs:List (ByteArray × Int)):Bool:=cs.all fun c=>decide (0<=fndI c.1 0 vars)
section
variable (S:List Ent) (tk:List Nat) (k:Nat)
theorem Ys (l:List ByteArray) (s:ByteArray) (hl:l.length<=1000000):cL prog 35 [.frz (l.map strC) .unk,.str s] S tk k=some (.int (fndI s 0 l),S,tk,k):=by
 refine opP func35 ntmps35 (hp3:=rfl) ?_;simp (maxSteps:=10^6)+contextual(disch:=try exact dqd)only[ev1,simprocAttr,Cb,Bg,Cc,results35];refine loop1 (P:=prog) (fun x st=>st.T.length=19/\(x<=l.length)/\(fndI s 0 l=fndI s x (l.drop x))/\getT st.T 0=.frz (l.map strC) .unk/\getT st.T 1=.str s/\getT st.T 7=.int (l.length:Nat)/\getT st.T 8=.int (x:Nat)/\st.S=[]) (fun x=>l.length - x) (fun x=>.int (fndI s 0 l)) (0) ?_ ?_;case refine_2=>exact ⟨rfl,Cl _,rfl,rfl,rfl,rfl,rfl,rfl⟩
 rintro i ⟨T,S',tk',n'⟩ ⟨hl,hi,hs,e0,e1,e7,e8,eS⟩ IH;subst eS;obtain ⟨g,hg,hT⟩:=Au hl;rw [hg] at e0 e1 e7 e8;subst hT;clear hg hl;by_cases la:i<l.length
 ·have ez:Ca.wrap ((i:Int)+1)=((i+1:Nat):Int):=aK
  have d1:decide ((i:Int)<(l.length:Int))=true:=bS
  obtain ⟨x,hx⟩:=Af la;have hx':nth (l.map strC) i=some (strC x):=dL
  simp only [strC] at hx';rw [A1 hx,fndI] at hs;cases d2:sEq x s with
  | true =>
   rw [if_pos d2] at hs;simp (maxSteps:=10^6)+contextual(disch:=try exact dqd)only[ev1,simprocAttr,Cb,Bg,Cc,results35,e0,e1,e7,e8,d1,d2,hx',ez];rw [hs]
  | false =>
   rw [if_neg (by rw [d2]; simp)] at hs;simp (maxSteps:=10^6)+contextual(disch:=try exact dqd)only[ev1,simprocAttr,Cb,Bg,Cc,results35,e0,e1,e7,e8,d1,d2,hx',ez];exact IH (i+1) _ aF ⟨rfl,aE,hs,aG,aG,aG,aG,aG⟩
 ·have d1:decide ((i:Int)<(l.length:Int))=false:=bS
  rw [Cy aA,fndI] at hs;simp (maxSteps:=10^6)+contextual(disch:=try exact dqd)only[ev1,simprocAttr,Cb,Bg,Cc,results35,e0,e1,e7,e8,d1];rw [hs]
theorem Yv (l:List RowT) (hl:∀ r ∈ l,r.1.length<=1048576) (cs:List (ByteArray × Int)) (nn:Int) (hcl:cs.length<=1048576) (h:sysE l≠0\/Bz cs nn≠0):cL prog 16 [Ar l,linA cs nn] S tk k=some (.tup [.agg (ceW (iQ 0)),.int (-1)],S,tk,k):=by
 have hC:=fun S tk k=>Ge S tk k l hl;have hD:=fun S tk k=>Ju S tk k cs nn hcl;have fo:=fun S tk k=>Hq S tk k 0 aC;simp only [Ar,linA,Ao] at hC hD;by_cases h0:sysE l=0
 ·have h1:Bz cs nn≠0:=by rcases h with h|h; exact absurd h0 h; exact h
  have c0:(sysE l != 0)=false:=aW
  have c1:(Bz cs nn != 0)=true:=aU
  refine opP func16 ntmps16 (hp3:=rfl) ?_;simp (maxSteps:=10^6)+contextual(disch:=try exact dqd)only[ev1,simprocAttr,Cb,Bg,Cc,results16,Ar,linA,Ao,hC,hD,c0,c1,fo,ovW,Al,An,Bx,Bt,tkW,puW];try rfl
 ·have c0:(sysE l != 0)=true:=aW
  refine opP func16 ntmps16 (hp3:=rfl) ?_;simp (maxSteps:=10^6)+contextual(disch:=try exact dqd)only[ev1,simprocAttr,Cb,Bg,Cc,results16,Ar,linA,Ao,hC,c0,fo,ovW,Al,An,Bx,Bt,tkW,puW];try rfl
theorem Aa2 (l:List RowT) (hne:l≠[]) (h0:sysE l=0) (cs:List (ByteArray × Int)) (nn:Int) (h1:Bz cs nn=0) (K:Nat) (b:Bool) (t':Tb) (hK:H5 (2*(Bh l).length+l.length+l.length) K (Ds l (Bh l))=some (b,t')) (hf:Gw t'=false):cL prog 16 [Ar l,linA cs nn] S tk k=some (.tup [.agg (ceW (iQ 0)),.int (-1)],S,tk,k):=by
 obtain ⟨f1,f2,f3,f4⟩:=Gb h0;have hcl:=Dz h1;have hC:=fun S tk k=>Ge S tk k l (fun r h=>cV);have hD:=fun S tk k=>Ju S tk k cs nn aA;rw [h0] at hC;rw [h1] at hD;have c0:((0:Int) != 0)=false:=rfl;have fo:=fun S tk k=>Hq S tk k 0 aC;obtain ⟨r,hB,S',tk',k',I,cc,rfl,hT,a8,rn,wl,am⟩:=Pt [⟨0,[Ao cs,.int nn]⟩,⟨1,[.prim (.bool false),.frz [] .nilc,.prim (.bool false),.frz [] .nilc]⟩] [] 2 l hne f1 f2 (Aaa h0) t' b _ hK;have hF:=T3 S' tk' k' I t' _ _ cc hT;rw [a8,rn,hf] at hF;have jn:nth S' 1=some ⟨1,[.prim (.bool false),.frz [] .nilc,.prim (.bool false),.frz [] .nilc]⟩:=by rw [(am 1 (by simp)).1]; rfl
 have hNp:∀ e,nth (put S' 1 e) 1=some e:=fun e=>Bw (by simp only [Ch,Co] at wl; omega);simp only [Ar,linA,Ao,Ch,Co,El,F5] at hC hD hB hF;refine opP func16 ntmps16 (hp3:=rfl) ?_;simp (maxSteps:=10^6)+contextual(disch:=try exact dqd)only[evm,simprocAttr,Cb,Bg,Cc,results16,Ar,linA,Ao,hC,hD,c0,hB,hF,jn,hNp,fo,ovW,Al,An,Bx,Bt,tkW,puW];try rfl
end
end
section
open Go Go.Proofs.Tryz
set_option maxHeartbeats 8000000
set_option maxRecDepth 100000
def cstI (vars:List ByteArray) (cs:List (ByteArray × Int)) (q:Nat):Int:=if q<2*vars.length then Gg cs (at_ ⟨#[]⟩ vars (q / 2))*(1 - 2*((q % 2:Nat):Int)) else 0
def lessBR (real:Nat):List Nat->List (List Q)->List Q->List Q
 | b :: bs,r :: rs,cost=>lessBR real bs rs (if b<real then lsR (at_ q0 cost b) cost r else cost)
 | _,_,cost=>cost
def Acq (real W:Nat) (vars:List ByteArray) (cs:List (ByteArray × Int)) (t:Tb):Tb :=
 { cleanR real t.rows.length 0 t with cost:=lessBR real (cleanR real t.rows.length 0 t).basis (cleanR real t.rows.length 0 t).rows ((Cz W).map fun a=>iQ (cstI vars cs a)) }
def Lx (n:Int) (b:Bool) (t:Tb):Q × Int:=if b=true then ((WW.qF.minus (iQ n) (at_ q0 t.cost (t.cost.length - 1))).1,1) else (iQ 0,0)
theorem TI_it {J:TI} {a b ic ec:Nat} (h:J.it=a) (h':J.et=b):({ J with ic:=ic,ec:=ec } : TI)=⟨a,b,J.ir,J.er,ic,ec,J.ib,J.eb,J.ids⟩:=by subst h h'; rfl
section
variable (S:List Ent) (tk:List Nat) (k:Nat)
theorem Aa1 (l:List RowT) (hne:l≠[]) (h0:sysE l=0) (cs:List (ByteArray × Int)) (nn:Int) (h1:Bz cs nn=0) (K:Nat) (b:Bool) (t':Tb) (hK:H5 (2*(Bh l).length+l.length+l.length) K (Ds l (Bh l))=some (b,t')) (hf:Gw t'=true) (gd:inV (Bh l) cs=true) (hsz:t'.cost.length=2*(Bh l).length+l.length+l.length+1)
  (K2:Nat) (b2:Bool) (t2:Tb) (hK2:H5 (2*(Bh l).length+l.length) K2 (Acq (2*(Bh l).length+l.length) (2*(Bh l).length+l.length+l.length+1) (Bh l) cs t')=some (b2,t2)) :
  cL prog 16 [Ar l,linA cs nn] S tk k=some (.tup [.agg (ceW (Lx nn b2 t2).1),.int (Lx nn b2 t2).2],S,tk,k):=by
 obtain ⟨f1,f2,f3,f4⟩:=Gb h0;have hcl:=Dz h1;have hsm:=(M0 (vars:=cs.map (·.1)) (r:=(cs,nn,false)) h1 (fun c hc=>Ft.2 ⟨c,hc,rfl⟩)).2;have a4s:∀ c ∈ cs,inB c.2=true:=fun c hc=>by have:=hsm.cof c hc; simp [inB]; omega
 have a6g : -1000000000000<=nn/\nn<=1000000000000:=Za32
 have hC:=fun S tk k=>Ge S tk k l (fun r h=>cV);have hD:=fun S tk k=>Ju S tk k cs nn aA;rw [h0] at hC;rw [h1] at hD;have c0:((0:Int) != 0)=false:=rfl;have fo:=fun S tk k=>Hq S tk k 0 aC;obtain ⟨r,hB,S',tk',k',I,cc,rfl,hT,a8,rn,wl,am⟩:=Pt [⟨0,[Ao cs,.int nn]⟩,⟨1,[.prim (.bool false),.frz [] .nilc,.prim (.bool false),.frz [] .nilc]⟩] [] 2 l hne f1 f2 (Aaa h0) t' b _ hK;simp only [Ch,Co,El,F5] at wl am a8;have hF:=T3 S' tk' k' I t' _ _ cc hT;rw [a8,rn,hf] at hF;have gc:nth S' 0=some ⟨0,[Ao cs,.int nn]⟩:=by rw [(am 0 aA).1]; rfl
 have jn:nth S' 1=some ⟨1,[.prim (.bool false),.frz [] .nilc,.prim (.bool false),.frz [] .nilc]⟩:=by rw [(am 1 aA).1]; rfl
 have hD0:entAt S' 0 0=some [Ao cs,.int nn]:=by unfold entAt; rw [gc]; rfl
 have hD1:entAt S' 1 1=some [.prim (.bool false),.frz [] .nilc,.prim (.bool false),.frz [] .nilc]:=by unfold entAt; rw [jn]; rfl
 obtain ⟨res,l9⟩:∃ res,res=AV.tup [.agg (ceW (Lx nn b2 t2).1),.int (Lx nn b2 t2).2]:=⟨_,rfl⟩;obtain ⟨vars,hve⟩:∃ vars,vars=Bh l:=⟨_,rfl⟩;obtain ⟨m,z8⟩:∃ m,m=l.length:=⟨_,rfl⟩;rw [<- hve,<- z8] at hT hK2 hsz;rw [<- hve] at gd;have yc:vars.length<=24:=by rw [hve]; exact f3
 have vq:m<=64:=by rw [z8]; exact f2
 have aa:=hT.top;rw [a8,rn] at aa;rw [<- l9];simp only [Ar,linA,Ao,Ch,Co,El,F5] at hC hD hB hF gc;refine opP func16 ntmps16 (hp3:=by rw [l9]; rfl) ?_;simp (maxSteps:=10^6)+contextual(disch:=try exact dqd)only[evm,simprocAttr,Cb,Bg,Cc,results16,Ar,linA,Ao,hC,hD,c0,hB,hF,gc,jn,fo,Al,An,Bx,Bt,tkW,puW];refine loop1 (P:=prog) (fun x st=>st.T.length=155/\(x<=cs.length)/\getT st.T 3=.ref 0 0 0/\getT st.T 4=.ref 1 1 0/\getT st.T 6=.ref 2 2 0/\getT st.T 29=.frz (cs.map D2) .unk/\getT st.T 30=.int (cs.length:Nat)/\getT st.T 31=.int (x:Nat)/\st.S=S') (fun x=>cs.length - x) (fun x=>res) (0) ?_ ?_;case refine_2=>exact ⟨rfl,Cl _,rfl,rfl,rfl,rfl,rfl,rfl,rfl⟩
 rintro j ⟨T,S',tk',n'⟩ ⟨hl,hj,e3,e4,e6,e29,e30,e31,eS⟩ IH;subst eS;obtain ⟨g,hg,hT⟩:=Au hl;rw [hg] at e3 e4 e6 e29 e30 e31;subst hT;clear hg hl;by_cases kv:j<cs.length
 ·have d1:decide ((j:Int)<(cs.length:Int))=true:=by simpa using kv
  have ez:Ca.wrap ((j:Int)+1)=((j+1:Nat):Int):=aK
  obtain ⟨c,hx⟩:=Af kv;have hx':nth (cs.map D2) j=some (D2 c):=dL
  simp only [D2] at hx';have hFi:=fun S tk k=>Ys S tk k vars c.1 aA;have mf:=Fb.1 gd c (Ak hx);have dF:decide (fndI c.1 0 vars<0)=false:=by simp only [decide_eq_true_eq] at mf; simp; omega
  simp (maxSteps:=10^6)+contextual(disch:=try exact dqd)only[evgm,simprocAttr,Cb,Bg,Cc,results16,e3,e4,e6,e29,e30,e31,d1,ez,hx',hFi,dF,aa];exact IH (j+1) _ aF ⟨rfl,aE,aG,aG,aG,aG,aG,aG,aG⟩
 have d1:decide ((j:Int)<(cs.length:Int))=false:=by simpa using kv
 have wl:2<=S'.length:=wl;obtain ⟨real,tm⟩:∃ real,real=2*vars.length+m:=⟨_,rfl⟩;obtain ⟨W,nv⟩:∃ W,W=2*vars.length+m+m+1:=⟨_,rfl⟩;rw [<- nv,<- tm] at hK2;rw [<- nv] at hsz;obtain ⟨r3,zw,S3,k3,I3,rfl,dz,ba,a6h,a6i,de⟩:=Aka S' tk' n' I t' vars m cc hT aA aA aA;rw [<- tm] at ba;have gh:Wd t' W:=⟨hsz,fun r hr=>by rw [hT.rowW r hr,hsz]⟩;obtain ⟨a18,hrl3⟩:=Abr (real:=real) (n:=t'.rows.length) (i:=0) gh aA;obtain ⟨t3,md⟩:∃ t3,t3=cleanR real t'.rows.length 0 t':=⟨_,rfl⟩;have uv:Acq real W vars cs t'={ t3 with cost:=lessBR real t3.basis t3.rows ((Cz W).map fun a=>iQ (cstI vars cs a)) }:=by rw [md]; rfl
 rw [uv] at hK2;rw [<- md] at ba a18;rw [a8,rn] at zw;have o0:=de 0 aA (am 0 aA).2;have o1:=de 1 aA (am 1 aA).2;have zy:I3.it=2:=a6h.trans a8;have a30:I3.et=2:=a6i.trans rn;have top3:=ba.top;rw [zy,a30] at top3;obtain ⟨m3,hm3⟩:∃ m3,m3=t3.rows.length:=⟨_,rfl⟩;have hM3:=ba.bigM;have hP3:=ba.posM;obtain ⟨thd,mb⟩:∃ x,x=AV.sref I3.ir I3.er 0 t3.rows.length 1:=⟨_,rfl⟩;obtain ⟨bhd,mz⟩:∃ x,x=AV.sref I3.ib I3.eb 0 t3.rows.length 1:=⟨_,rfl⟩;obtain ⟨flp,qp⟩:∃ x,x=AV.frz (t3.flip.map De) cc:=⟨_,rfl⟩;rw [<- mb,<- mz,<- qp] at top3;simp only [intA] at top3;have h2l:2<S3.length:=Aw top3;obtain ⟨S4,ws⟩:∃ X,X=put S3 2 ⟨2,[thd,bhd,.frz [] .nilc,.frz (vars.map strC) .unk,flp,.prim (.int .i64 (m:Int))]⟩:=⟨_,rfl⟩;have a3x:=ws.symm;have top4:entAt S4 2 2=some [thd,bhd,.frz [] .nilc,.frz (vars.map strC) .unk,flp,.prim (.int .i64 (m:Int))]:=by rw [ws]; exact Ae h2l
 have b9:=fun tk n=>Hf S4 tk n 2 2 _ bhd _ flp vars m top4 aA aA;rw [<- tm] at b9;have hw1:Ca.wrap ((real:Int)+(m:Int))=((real+m:Nat):Int):=aK
 have hw2:Ca.wrap (((real+m:Nat):Int)+1)=(W:Int):=by rw [Ac aC,nv,tm]; rfl
 have hwv:Ca.wrap (2*(vars.length:Int))=((2*vars.length:Nat):Int):=aK
 have cd:apT prog 54=some 4:=aI
 simp (maxSteps:=10^6)+contextual(disch:=try exact dqd)only[evgm,simprocAttr,Cb,Bg,Cc,results16,e3,e4,e6,e29,e30,e31,d1,zw,top3,a3x,top4,b9,gO_refl,hw1,hw2,xfs];refine loop1 (P:=prog) (fun x st=>st.T.length=155/\(x.2.1<=W)/\(x.1.length=S3.length+(if x.2.1=0 then 0 else 1))/\(entAt x.1 2 2=some [thd,bhd,ohd S3.length x.2.2 x.2.1,.frz (vars.map strC) .unk,flp,.prim (.int .i64 (m:Int))])/\(x.2.1≠0->entAt x.1 S3.length x.2.2=some (flat ceW ((Cz x.2.1).map fun a=>iQ (cstI vars cs a))))/\(∀ j,j<S3.length->j≠2->nth x.1 j=nth S3 j)/\getT st.T 3=.ref 0 0 0/\getT st.T 4=.ref 1 1 0/\getT st.T 6=.ref 2 2 0/\getT st.T 57=.int (W:Nat)/\getT st.T 58=.int (x.2.1:Nat)/\st.S=x.1) (fun x=>W - x.2.1) (fun x=>res) (S4,0,0) ?_ ?_;case refine_2=>exact ⟨rfl,Cl _,by rw [ws,Ai]; rfl,top4,(fun h=>absurd rfl h),(fun j _ h2=>by rw [ws,Ab (Ih h2)]),rfl,rfl,rfl,rfl,rfl,rfl⟩
 rintro ⟨SS,q,e⟩ ⟨T,S',tk',n'⟩ ⟨hl,hq,cn,htq,hE,qh,e3,e4,e6,e57,e58,eS⟩ IH;simp only at hq cn htq hE qh e3 e4 e6 e57 e58 eS;subst eS;obtain ⟨g,hg,hT⟩:=Au hl;rw [hg] at e3 e4 e6 e57 e58;subst hT;clear hg hl;obtain ⟨chd,x7⟩:∃ x,x=ohd S3.length e q:=⟨_,rfl⟩;rw [<- x7] at htq;by_cases hqW:q<W
 ·have c1:decide ((q:Int)<(W:Int))=true:=gC
  have ra:Ca.wrap ((q:Int)+1)=((q+1:Nat):Int):=aK
  have hA0:entAt S' 0 0=some [.frz (cs.map D2) .unk,.int nn]:=by
   rw [Aa (qh 0 aA aA),Aa o0.1]; unfold entAt; rw [gc]; rfl
  obtain ⟨x,hx⟩:∃ x,x=cstI vars cs q:=⟨_,rfl⟩;obtain ⟨ls,lh⟩:∃ ls,ls=(Cz q).map (fun a=>iQ (cstI vars cs a)):=⟨_,rfl⟩;have lu:ls.length=q:=by rw [lh]; simp
  have hln:ls=[]↔q=0:=by rw [<- C4,lu]
  have a6j:(Cz (q+1)).map (fun a=>iQ (cstI vars cs a))=ls++[iQ x]:=by rw [kM,F4,<- lh,hx]; rfl
  rw [<- lh] at hE;have g0:ls=[]->S'.length=S3.length:=fun h=>by rw [cn,if_pos (hln.1 h)]; rfl
  have g1:ls≠[]->entAt S' S3.length e=some (flat ceW ls):=fun h=>hE fun e=>h (hln.2 e);have x9:∀ n,∃ X,X=Gu S' S3.length n ls (flat ceW (ls++[iQ x]))/\∀ c,apO prog 54 chd (.frz [ceW (iQ x)] c) S' n=some (.sref S3.length n 0 (q+1) 4,X,n+1):=fun n=>⟨_,rfl,fun c=>by
   have:=Akt (P:=prog) (S:=S') (id:=S3.length) (e:=e) (n:=n) (l:=ls) (zs:=[iQ x]) (c:=c) cd (by simp) g0 g1 (by rw [lu]; simp; omega);rw [lu,<- x7] at this;exact this⟩
  obtain ⟨S5,hS5,x9⟩:=x9 n';have nd:∀ j,j<S3.length->nth S5 j=nth S' j:=fun j hj=>by
   have hLS:S3.length<=S'.length:=by rw [cn]; omega
   rw [hS5]; unfold Gu; split
   ·exact Ax aA
   ·exact Ab aA
  have a1p:S5.length=S'.length+(if q=0 then 1 else 0):=by rw [hS5,X7]; simp only [hln]
  have a6k:entAt S5 S3.length n'=some (flat ceW (ls++[iQ x])):=by
   rw [hS5]; unfold Gu; split
   ·rename_i h;rw [<- g0 h]; exact Az
   ·rename_i h;exact Ae (Aw (g1 h))
  have tp5:entAt S5 2 2=some [thd,bhd,chd,.frz (vars.map strC) .unk,flp,.prim (.int .i64 (m:Int))]:=by rw [Aa (nd 2 h2l)]; exact htq
  obtain ⟨S6,ym⟩:∃ X,X=put S5 2 ⟨2,[thd,bhd,.sref S3.length n' 0 (q+1) 4,.frz (vars.map strC) .unk,flp,.prim (.int .i64 (m:Int))]⟩:=⟨_,rfl⟩;have a17:=ym.symm;have tp6:entAt S6 2 2=some [thd,bhd,.sref S3.length n' 0 (q+1) 4,.frz (vars.map strC) .unk,flp,.prim (.int .i64 (m:Int))]:=by rw [ym]; exact Ae (Aw tp5)
  have a4t:S6.length=S3.length+(if q+1=0 then 0 else 1):=by
   rw [ym,Ai,a1p,cn,if_neg (show ¬ q+1=0 by omega)];by_cases h:q=0
   ·rw [if_pos h,if_pos h]
   ·rw [if_neg h,if_neg h]
  have ub:q+1≠0->entAt S6 S3.length n'=some (flat ceW ((Cz (q+1)).map (fun a=>iQ (cstI vars cs a)))):=fun _=>by rw [ym,Ah aA,a6j]; exact a6k
  have a4u:∀ j,j<S3.length->j≠2->nth S6 j=nth S3 j:=fun j h1 h2=>by rw [ym,Ab (Ih h2),nd j h1]; exact qh j h1 h2
  by_cases hq2:q<2*vars.length
  ·have d2:decide ((q:Int)<((2*vars.length:Nat):Int))=true:=aD
   have hqd:q / 2<vars.length:=aA
   obtain ⟨v,hv⟩:=Af hqd;have vn:nth (vars.map strC) (q / 2)=some (strC v):=by rw [Dx,hv]; rfl
   simp only [strC] at vn;have hco:=fun S tk k=>Af0 S tk k cs nn v aA;simp only [Ao] at hco;have wd1:Ca.wrap ((q:Int).tdiv 2)=((q / 2:Nat):Int):=by
    rw [show (q:Int).tdiv 2=((q / 2:Nat):Int) from rfl]; exact Ac aC
   have wd2:(q:Int).tmod 2=((q % 2:Nat):Int):=rfl;have wd3:Ca.wrap (2*((q % 2:Nat):Int))=2*((q % 2:Nat):Int):=Ac aC;have wd4:Ca.wrap (1 - 2*((q % 2:Nat):Int))=1 - 2*((q % 2:Nat):Int):=Ac aC;have hcb:=P3 (v:=v) a4s;have a32:((q % 2:Nat):Int)=0\/((q % 2:Nat):Int)=1:=aA
   have hxv:x=Gg cs v*(1 - 2*((q % 2:Nat):Int)):=by rw [hx]; unfold cstI; rw [if_pos hq2,Av hv]
   have u6 : -1000000000000<=x/\x<=1000000000000:=by rw [hxv]; rcases a32 with h|h <;> rw [h] <;> omega
   have wd5:Ca.wrap (Gg cs v*(1 - 2*((q % 2:Nat):Int)))=x:=by rw [<- hxv]; exact Ac aC
   have ix:=fun S tk k=>Hq S tk k x aC;simp (maxSteps:=10^6)+contextual(disch:=try exact dqd)only[evgm,simprocAttr,Cb,Bg,Cc,results16,e3,e4,e6,e57,e58,c1,d2,ra,hwv,htq,hA0,vn,hqd,hco,wd1,wd2,wd3,wd4,wd5,ix,x9,tp5,a17,xfs,Al,An,Bx,Bt,tkW,puW];exact Ya3n
  ·have d2:decide ((q:Int)<((2*vars.length:Nat):Int))=false:=aD
   have mc:x=0:=by rw [hx]; unfold cstI; rw [if_neg hq2]
   rw [mc] at x9;simp (maxSteps:=10^6)+contextual(disch:=try exact dqd)only[evgm,simprocAttr,Cb,Bg,Cc,results16,e3,e4,e6,e57,e58,c1,d2,ra,hwv,htq,fo,x9,tp5,a17,xfs,Al,An,Bx,Bt,tkW,puW];exact Ya3n
 ·have c1:decide ((q:Int)<(W:Int))=false:=gC
  have hqe:q=W:=aA
  have hW0:q≠0:=aA
  have fm:=hE hW0;obtain ⟨cost,i9⟩:∃ cost,cost=(Cz q).map (fun a=>iQ (cstI vars cs a)):=⟨_,rfl⟩;have a19:cost.length=W:=by rw [i9]; simp [hqe]
  have hK3:H5 real K2 { t3 with cost:=lessBR real t3.basis t3.rows cost }=some (b2,t2):=by rw [i9,hqe]; exact hK2
  rw [<- i9] at fm;have oct:okL WW.qF cost:=by
   intro x hx;rw [i9] at hx;obtain ⟨a,ha,rfl⟩:=Ft.1 hx;refine N2 ?_;unfold cstI;split
   ·have hcb:=P3 (v:=at_ ⟨#[]⟩ vars (a / 2)) a4s;have a32:((a % 2:Nat):Int)=0\/((a % 2:Nat):Int)=1:=aA
    unfold i64; rcases a32 with h|h <;> rw [h] <;> omega
   ·unfold i64; omega
  obtain ⟨J,hJ⟩:∃ J:TI,J={ I3 with ic:=S3.length,ec:=e }:=⟨_,rfl⟩;have a1m:=ba.lt;have df:S'.length=S3.length+1:=by rw [cn,if_neg hW0]
  have ap3:=ba.ap;have ot:∀ j e,j<S3.length->j≠2->entAt S' j e=entAt S3 j e:=fun j e h1 h2=>Aa (qh j h1 h2);have hRT:RTab S' J { t3 with cost:=cost } vars m cc:=by
   rw [hJ];refine ⟨?_,ba.nids,?_,fun i p r hp hr=>?_,fun r hr=>by rw [a18.2 r hr]; exact a19.symm,fm,?_,ba.nb,⟨ap3.tr,by show I3.it≠S3.length; omega,ap3.tb,by show I3.ir≠S3.length; omega,ap3.rb,by show S3.length≠I3.ib; omega,fun p hp=>?_,ap3.rows⟩,ba.okr,oct,by show cost.length<=1000000; omega,hM3,hP3,by show 0<cost.length; omega⟩
   ·rw [zy,a30];simp only [a19,intA];rw [<- mb,<- mz,<- qp,<- hqe,<- Jz (id:=S3.length) (ep:=e) hW0,<- x7]; exact htq
   ·rw [ot _ _ a1m.2.1 (by rw [<- zy]; exact ap3.tr.symm)];have:=ba.rowsE;rw [a18.1] at this;simp only [a19]; exact this
   ·have h1:=ap3.row p (Ak hp);rw [ot _ _ (a1m.2.2.2.2 p (Ak hp)) (by rw [<- zy]; exact h1.1)];exact ba.rowE i p r hp hr
   ·rw [ot _ _ a1m.2.2.2.1 (by rw [<- zy]; exact ap3.tb.symm)]; exact ba.basisE
   ·have h1:=ap3.row p hp;exact ⟨h1.1,h1.2.1,by show p.1≠S3.length; have:=a1m.2.2.2.2 p hp; omega,h1.2.2.2⟩
  have hE0':nth S' 0=nth S3 0:=qh 0 aA aA;have hE1':nth S' 1=nth S3 1:=qh 1 aA aA;have out:∀ j,j<2->OutR I3 j->OutR J j:=fun j h1 h=>by
   rw [hJ]; exact ⟨h.1,h.2.1,by show j≠S3.length; omega,h.2.2.2.1,h.2.2.2.2⟩
  have hnb3:=ba.nb;rw [mz] at htq;simp (maxSteps:=10^6)+contextual(disch:=try exact dqd)only[evgm,simprocAttr,Cb,Bg,Cc,results16,e3,e4,e6,e57,e58,c1,htq];refine loop1 (P:=prog) (fun x st=>st.T.length=155/\(x.2.2.1<=t3.rows.length)/\(lessBR real t3.basis t3.rows cost=lessBR real (t3.basis.drop x.2.2.1) (t3.rows.drop x.2.2.1) x.2.2.2)/\(RTab x.1 x.2.1 { t3 with cost:=x.2.2.2 } vars m cc)/\(x.2.1.it=2/\x.2.1.et=2/\x.2.1.ib=I3.ib/\x.2.1.eb=I3.eb)/\(x.2.2.2.length=W)/\(∀ j,j<2->nth x.1 j=nth S3 j/\OutR x.2.1 j)/\(2<=x.1.length)/\getT st.T 3=.ref 0 0 0/\getT st.T 4=.ref 1 1 0/\getT st.T 6=.ref 2 2 0/\getT st.T 99=.sref I3.ib I3.eb 0 t3.rows.length 1/\getT st.T 100=.int (t3.rows.length:Nat)/\getT st.T 101=.int (x.2.2.1:Nat)/\st.S=x.1) (fun x=>t3.rows.length - x.2.2.1) (fun x=>res) (S',J,0,cost) ?_ ?_;case refine_2=>exact ⟨rfl,Cl _,rfl,hRT,⟨by rw [hJ]; exact zy,by rw [hJ]; exact a30,by rw [hJ],by rw [hJ]⟩,a19,(fun j h=>⟨qh j aA aA,out j h (by match j,h with|0,_=>exact o0.2|1,_=>exact o1.2)⟩),by show 2<=S'.length; omega,rfl,rfl,rfl,rfl,rfl,rfl,rfl⟩
  rintro ⟨SS,J1,i,cst⟩ ⟨T,S',tk',n'⟩ ⟨hl,hi,zg,hTl,hJ1,hcw,tn,hL5,e3,e4,e6,e99,e100,e101,eS⟩ IH;simp only at hi zg hTl hJ1 hcw tn hL5 e3 e4 e6 e99 e100 e101 eS;subst eS;obtain ⟨g,hg,hT⟩:=Au hl;rw [hg] at e3 e4 e6 e99 e100 e101;subst hT;clear hg hl;obtain ⟨kx,ma,hJb,a33⟩:=hJ1;have hL5:2<=S'.length:=hL5;have tn:∀ j,j<2->nth S' j=nth S3 j/\OutR J1 j:=tn;have htl:=hTl.top;simp only [kx,ma,hcw,intA] at htl;obtain ⟨flq,a4v⟩:∃ x,x=AV.frz (t3.flip.map De) cc:=⟨_,rfl⟩;rw [<- a4v] at htl;have jf:=hTl.basisE;simp only [hJb,a33] at jf;have xx:=hTl.costE;simp only at xx;by_cases o6:i<t3.rows.length
  ·have d1':decide ((i:Int)<(t3.rows.length:Int))=true:=dO
   have hwi:Ca.wrap ((i:Int)+1)=((i+1:Nat):Int):=aK
   obtain ⟨bv,hb⟩:=Af (show i<t3.basis.length by omega);have hb2:nth (I7 i (t3.basis.map intA)) 0=some (.prim (.int .i64 (bv:Int))):=Bd (by rw [Ag] at hb ⊢; rw [Cw,hb]; rfl);have ya:=fun tk n=>Hf S' tk n 2 2 _ _ _ _ vars m htl aA aA;rw [<- tm] at ya;obtain ⟨row,az⟩:=Af o6;obtain ⟨pi,gv⟩:=Af (show i<J1.ids.length by rw [hTl.nids]; exact o6);have hu:lessBR real (t3.basis.drop i) (t3.rows.drop i) cst=lessBR real (t3.basis.drop (i+1)) (t3.rows.drop (i+1)) (if bv<real then lsR (at_ q0 cst bv) cst row else cst):=by
    rw [A1 hb,A1 az,lessBR]
   rw [hu] at zg;by_cases hbr:bv<real
   ·have c2:decide ((bv:Int)<(real:Int))=true:=gD
    rw [if_pos hbr] at zg;have hbW:bv<W:=aA
    obtain ⟨f,hf5⟩:=Af (show bv<cst.length by omega);have of:=hTl.okc f (Ak hf5);have hft:=Ap (ce:=ceW) Al hf5;rw [Av hf5] at zg;have hrl5:=a18.2 row (Ak az);have or5:=hTl.okr row (Ak az);have a4w:=hTl.rowsE;simp only [hcw] at a4w;have a6l:=hTl.rowE i pi row gv az;have a1n:nth (I7 i (J1.ids.map (da W 4))) 0=some (.sref pi.1 pi.2 0 W 4):=Bd (by rw [Ag] at gv ⊢; rw [Cw,gv]; rfl);obtain ⟨r7,au,S7,k7,id,ep,rfl,hl7,hn7,he7,z7⟩:=Yx S' tk' n' J1.ic J1.ec pi.1 pi.2 f cst row of xx a6l aA aA aA hTl.okc or5;rw [hcw] at au;have om:RTab S7 J1 { t3 with cost:=cst } vars m cc:=hTl.frame fun j hj _=>hn7 j hj;have hz:(lsR f cst row).length=cst.length:=Qx aA;have hqo:(id,ep)=(J1.ic,J1.ec)\/OutR J1 (id,ep).1:=by
     rcases z7 with ⟨rfl,rfl⟩|h
     ·exact .inl rfl
     ·exact .inr (hTl.out h)
    have hT8:=om.setCost (q:=(id,ep)) (k':=lsR f cst row) hz (Ams of hTl.okc or5) hqo he7;simp only [kx,ma,hcw,intA] at hT8;rw [<- a4v] at hT8;have htf:=(Aa (e:=2) (hn7 2 (Aw htl))).trans htl;obtain ⟨S8,hS8⟩:∃ X,X=put S7 2 ⟨2,[.sref J1.ir J1.er 0 t3.rows.length 1,.sref J1.ib J1.eb 0 t3.rows.length 1,.sref id ep 0 W 4,.frz (vars.map strC) .unk,flq,.prim (.int .i64 (m:Int))]⟩:=⟨_,rfl⟩;have a4x:=hS8.symm;rw [a4x,<- TI_it kx ma] at hT8;have a6m:∀ j,j<2->nth S8 j=nth S3 j/\OutR { J1 with ic:=id,ec:=ep } j:=fun j hj=>by
     obtain ⟨a1,a2⟩:=tn j hj;refine ⟨by rw [hS8,Ab aA,hn7 j aA]; exact a1,a2.1,a2.2.1,?_,a2.2.2.2.1,a2.2.2.2.2⟩;rcases z7 with ⟨h3,h4⟩|h3
     ·show j≠id;rw [h3]; exact a2.2.2.1
     ·show j≠id;omega
    simp (maxSteps:=10^6)+contextual(disch:=try exact dqd)only[evgm,simprocAttr,Cb,Bg,Cc,results16,e3,e4,e6,e99,e100,e101,d1',c2,hwi,htl,jf,hb2,o6,ya,gO_refl,a4w,a1n,xx,hft,hbW,au,hl7,R4,htf,a4x,xfs,C9,Al,An,Bx,Bt,tkW,puW];exact IH (S8,{ J1 with ic:=id,ec:=ep },i+1,lsR f cst row) _ aF ⟨rfl,aE,zg,hT8,⟨kx,ma,hJb,a33⟩,hz.trans hcw,a6m,by rw [hS8,Ai]; omega,aG,aG,aG,aG,aG,aG,aG⟩
   ·have c2:decide ((bv:Int)<(real:Int))=false:=gD
    rw [if_neg hbr] at zg;simp (maxSteps:=10^6)+contextual(disch:=try exact dqd)only[evgm,simprocAttr,Cb,Bg,Cc,results16,e3,e4,e6,e99,e100,e101,d1',c2,hwi,htl,jf,hb2,o6,ya,gO_refl,xfs,C9];exact IH (S',J1,i+1,cst) _ aF ⟨rfl,aE,zg,hTl,⟨kx,ma,hJb,a33⟩,hcw,tn,hL5,aG,aG,aG,aG,aG,aG,aG⟩
  ·have d1':decide ((i:Int)<(t3.rows.length:Int))=false:=dO
   have ei:∀ rs c,lessBR real [] rs c=c:=fun rs c=>by simp [lessBR]
   rw [Cy (show t3.basis.length<=i by omega),ei] at zg;rw [zg] at hK3;have ya:=fun tk n=>Hf S' tk n 2 2 _ _ _ _ vars m htl aA aA;rw [<- tm] at ya;obtain ⟨r7,au,S7,k7,J7,rfl,hl7,hT7,a6n,a6o,hf7⟩:=Aa5 S' tk' n' J1 _ t2 vars m cc real K2 b2 hTl (by show real<=cst.length; omega) hK3;rw [kx,ma] at au;have n0:=hf7 0 aA (tn 0 aA).2;have n1:=hf7 1 aA (tn 1 aA).2;have q0':entAt S7 0 0=some [.frz (cs.map D2) .unk,.int nn]:=by
    rw [Aa n0.1,Aa (tn 0 aA).1,Aa o0.1]; unfold entAt; rw [gc]; rfl
   have q1':entAt S7 1 1=some [.prim (.bool false),.frz [] .nilc,.prim (.bool false),.frz [] .nilc]:=by
    rw [Aa n1.1,Aa (tn 1 aA).1,Aa o1.1]; unfold entAt; rw [jn]; rfl
   have hpe:∀ cs,entAt (put S7 1 ⟨1,cs⟩) 1 1=some cs:=fun cs=>Ae (Aw q1');cases b2 with
   | false =>
    have ii:Lx nn false t2=(iQ 0,0):=rfl;rw [ii] at l9;simp (maxSteps:=10^6)+contextual(disch:=try exact dqd)only[evgm,simprocAttr,Cb,Bg,Cc,results16,e3,e4,e6,e99,e100,e101,d1',ya,au,fo,q1',hpe,ovW,xfs,Al,An,Bx,Bt,tkW,puW];rw [l9];try rfl
   | true =>
    have hW7:=hT7.bigW;have hp7:=hT7.posW;have a2f:=hT7.top;rw [a6n.trans kx,a6o.trans ma] at a2f;have a6p:=hT7.costE;obtain ⟨z,hz⟩:=Af (show t2.cost.length - 1<t2.cost.length by omega);have oz:=hT7.okc z (Ak hz);have jw:=Ap (ce:=ceW) Al hz;have ig:Ca.wrap ((t2.cost.length:Int) - 1)=((t2.cost.length - 1:Nat):Int):=aS
    have ku:t2.cost.length - 1<t2.cost.length:=aA
    have iN:=fun S tk k=>Hq S tk k nn aC;have hDs:=fun S tk k=>Yy S tk k (iQ nn) z (N2 aC) oz;have ii:Lx nn true t2=((WW.qF.minus (iQ nn) z).1,1):=by unfold Lx; rw [if_pos rfl,Av hz]
    rw [ii] at l9;obtain ⟨y,hy⟩:∃ y,y=(WW.qF.minus (iQ nn) z).1:=⟨_,rfl⟩;rw [<- hy] at hDs l9;simp (maxSteps:=10^6)+contextual(disch:=try exact dqd)only[evgm,simprocAttr,Cb,Bg,Cc,results16,e3,e4,e6,e99,e100,e101,d1',ya,au,q0',q1',a2f,a6p,jw,ig,ku,iN,hDs,hpe,ovW,xfs,C9,Al,An,Bx,Bt,tkW,puW];rw [l9];try rfl
end
end
section
open Go
section
variable {F:Fld} {G:Q->Prop} {fit:Rat->Prop} {m N L:Nat} {f:Nat->Rat}
theorem Acu (hE:F.Exact G) {t:Tb} (ht:TOk G m N t) (hB:∀ i,i<m->(tabV t).B i<N+1):∀ (n k:Nat) {cost:List Q},k+n=m->cost.length=N+1->(∀ q ∈ cost,G q)->(∀ j,qv (at_ q0 cost j)=Simp.red (tabV t) f k j)->(lessBs F (t.basis.drop k) (t.rows.drop k) cost).2=false ->
  (lessBs F (t.basis.drop k) (t.rows.drop k) cost).1.length=N+1/\(∀ q ∈ (lessBs F (t.basis.drop k) (t.rows.drop k) cost).1,G q)/\∀ j,qv (at_ q0 (lessBs F (t.basis.drop k) (t.rows.drop k) cost).1 j)=Simp.red (tabV t) f m j
 | 0,k,cost,hk,hl,hg,hv,_=>by
  have c9:k=m:=aA
  subst c9;rw [Cy Za5g];have:∀ rs,lessBs F [] rs cost=(cost,false):=fun rs=>by simp [lessBs]
  rw [this];exact ⟨hl,hg,hv⟩
 | n+1,k,cost,hk,hl,hg,hv,hfl=>by
  have c9:k<m:=aA
  have hb:=L5 (d:=0) (l:=t.basis) (k:=k) Za4r;have hr:=L5 (d:=([]:List Q)) (l:=t.rows) (k:=k) Za55;have bl:=Ep ht c9;have iw:=ht.rowW _ bl;have hbN:at_ 0 t.basis k<N+1:=hB k c9;rw [A1 hb,A1 hr] at hfl ⊢;rw [lessBs] at hfl ⊢;simp only [Ff] at hfl ⊢;have hx:=T9 hE (c:=at_ 0 t.basis k) aA (show cost.length=(at_ [] t.rows k).length by rw [hl]; exact iw.symm) hg (ht.okr _ bl) hfl.1;refine Acu hE ht hB n (k+1) aA (by rw [Qo,hl]) hx.1 (fun j=>?_) hfl.2;exact Ya3k
theorem X4 (hE:F.Exact G) (hT:F.Total G fit) {t:Tb} (ht:TOk G m N t) (hB:∀ i,i<m->(tabV t).B i<N+1) (hf:∀ k,k<m->∀ j,j<N+1->fit (Simp.red (tabV t) f k ((tabV t).B k)*(tabV t).T k j)/\fit (Simp.red (tabV t) f k j - Simp.red (tabV t) f k ((tabV t).B k)*(tabV t).T k j)) :
  ∀ (n k:Nat) {cost:List Q},k+n=m->cost.length=N+1->(∀ q ∈ cost,G q)->(∀ j,qv (at_ q0 cost j)=Simp.red (tabV t) f k j)->(lessBs F (t.basis.drop k) (t.rows.drop k) cost).2=false
 | 0,k,cost,hk,hl,hg,hv=>by
  rw [Cy Za5g];simp [lessBs]
 | n+1,k,cost,hk,hl,hg,hv=>by
  have c9:k<m:=aA
  have hb:=L5 (d:=0) (l:=t.basis) (k:=k) Za4r;have hr:=L5 (d:=([]:List Q)) (l:=t.rows) (k:=k) Za55;have bl:=Ep ht c9;have iw:=ht.rowW _ bl;have hbN:at_ 0 t.basis k<N+1:=hB k c9;have hcl:cost.length=(at_ [] t.rows k).length:=by rw [hl]; exact iw.symm
  rw [A1 hb,A1 hr,lessBs];have h1:=V5 hE hT (c:=at_ 0 t.basis k) aA hcl hg (ht.okr _ bl) fun j hj=>by
   exact Ya4b
  have hx:=T9 hE (c:=at_ 0 t.basis k) aA hcl hg (ht.okr _ bl) h1;simp only [h1,Oi];refine X4 hE hT ht hB hf n (k+1) aA (by rw [Qo,hl]) hx.1 fun j=>?_;exact Ya3k
theorem V3 {t:Tb} (ht:TOk gW m N t) (hF:Simp.Fit m N (tabV t)) (hf0:∀ j,L<=j->f j=0) (hf:∀ k,k<m->∀ j,j<N+1->Hc (Simp.red (tabV t) f k ((tabV t).B k)*(tabV t).T k j)/\Hc (Simp.red (tabV t) f k j - Simp.red (tabV t) f k ((tabV t).B k)*(tabV t).T k j)) :
  ∀ (n k:Nat) {cost:List Q},k+n=m->cost.length=N+1->(∀ q ∈ cost,gW q)->(∀ j,qv (at_ q0 cost j)=Simp.red (tabV t) f k j) ->
  (lessBR L (t.basis.drop k) (t.rows.drop k) cost).length=N+1/\(∀ q ∈ lessBR L (t.basis.drop k) (t.rows.drop k) cost,gW q)/\∀ j,qv (at_ q0 (lessBR L (t.basis.drop k) (t.rows.drop k) cost) j)=Simp.red (tabV t) f m j
 | 0,k,cost,hk,hl,hg,hv=>by
  have c9:k=m:=aA
  subst c9;rw [Cy Za5g];have:∀ rs,lessBR L [] rs cost=cost:=fun rs=>by simp [lessBR]
  rw [this];exact ⟨hl,hg,hv⟩
 | n+1,k,cost,hk,hl,hg,hv=>by
  have c9:k<m:=aA
  have hb:=L5 (d:=0) (l:=t.basis) (k:=k) Za4r;have hr:=L5 (d:=([]:List Q)) (l:=t.rows) (k:=k) Za55;have bl:=Ep ht c9;have iw:=ht.rowW _ bl;have hbN:at_ 0 t.basis k<N:=hF.lt k c9;have hcl:cost.length=(at_ [] t.rows k).length:=by rw [hl]; exact iw.symm
  have yr:Simp.red (tabV t) f k (at_ 0 t.basis k)=f (at_ 0 t.basis k):=by
   have:=Simp.red_basis (f:=f) hF k aA k c9;rw [if_neg (lA k)] at this;exact this
  rw [A1 hb,A1 hr,lessBR];by_cases hbL:at_ 0 t.basis k<L
  ·rw [if_pos hbL];have hx:=Amr (f:=at_ q0 cost (at_ 0 t.basis k)) (hg _ (Dy aA)) hcl hg (ht.okr _ bl) fun j hj=>by
    exact Ya4b
   refine V3 ht hF hf0 hf n (k+1) aA (by rw [Qx hcl,hl]) hx.1 fun j=>?_;exact Ya3k
  ·rw [if_neg hbL];refine V3 ht hF hf0 hf n (k+1) aA hl hg fun j=>?_;rw [hv j];show _=Simp.red (tabV t) f k j - Simp.red (tabV t) f k (at_ 0 t.basis k)*(tabV t).T k j;rw [yr,hf0 _ aA]; grind
end
def G6 (vars:List ByteArray) (cs:List (ByteArray × Int)):Nat->Rat:=Simp.formC vars.length fun k=>((cofI vars cs k:Int):Rat)
section
variable {F:Fld} {G:Q->Prop} {fit:Rat->Prop} {vars:List ByteArray} {cs:List (ByteArray × Int)}
theorem Air (hm:∀ c ∈ cs,c.1 ∈ vars) (hp:(cs.map fun c=>idxV vars c.1).Pairwise (·≠·)) (j:Nat):Mh 1 vars cs (fun _=>0) j=G6 vars cs j:=by
 unfold G6 Simp.formC;by_cases h:j<2*vars.length
 ·rw [if_pos h];obtain ⟨h1,h2⟩:=Hh (u:=1) hp (j / 2);by_cases e:j % 2=0
  ·rw [if_pos e];rw [show 2*(j / 2)=j by omega] at h1;rw [h1]; grind
  ·rw [if_neg e];rw [show 2*(j / 2)+1=j by omega] at h2;rw [h2]; grind
 ·rw [if_neg h,P4 hm aA]
theorem Acd {j:Nat} (h:2*vars.length<=j):G6 vars cs j=0:=by unfold G6 Simp.formC; rw [if_neg aA]
theorem Ace {M:Nat} (h:∀ c ∈ cs,c.2.natAbs<=M) (j:Nat):∃ z:Int,G6 vars cs j=((z:Int):Rat)/\z.natAbs<=M:=by
 have hc:∀ k,(cofI vars cs k).natAbs<=M:=fun k=>by
  rcases Zf (vars:=vars) (k:=k) (cs:=cs) with e|⟨c,h1,h2,-⟩
  ·rw [e]; simp
  ·rw [<- h2]; exact h c h1
 unfold G6 Simp.formC;split
 ·split
  ·exact ⟨_,rfl,hc _⟩
  ·exact ⟨-(cofI vars cs (j / 2)),by rw [K9],by rw [Int.natAbs_neg]; exact hc _⟩
 ·exact ⟨0,by rw [Sv],by simp⟩
theorem Amb (hE:F.Exact G) {z:Q} (hz:G z) (hz0:qv z=0):∀ {cs:List (ByteArray × Int)} {cost:List Q} {f:Nat->Rat},(∀ c ∈ cs,i64 c.2/\c.1 ∈ vars)->2*vars.length<=cost.length->(∀ q ∈ cost,G q)->(∀ j,qv (at_ q0 cost j)=f j)->(lcsC F z vars cs cost).2=false ->
  (lcsC F z vars cs cost).1.length=cost.length/\(∀ q ∈ (lcsC F z vars cs cost).1,G q)/\∀ j,qv (at_ q0 (lcsC F z vars cs cost).1 j)=Mh 1 vars cs f j
 | [],cost,f,_,_,hg,hf,_=>⟨rfl,hg,hf⟩
 | c :: cs,cost,f,hc,hl,hg,hf,hfl=>by
  obtain ⟨hi,hm⟩:=hc c (Cs ..);have j4:=(Kf hm).2;simp only [lcsC,lcC,Ff] at hfl;obtain ⟨⟨f1,f3⟩,f4⟩:=hfl;have w:=hE.whole c.2 hi f1;have d:=hE.minus z _ hz w.1 f3;have ih:=Amb hE hz hz0 (cs:=cs) (cost:=put (put cost (2*idxV vars c.1) (F.whole c.2).1) (2*idxV vars c.1+1) (F.minus z (F.whole c.2).1).1)
   (f:=fun j=>if j=2*idxV vars c.1+1 then -((1:Rat)*((c.2:Int):Rat)) else if j=2*idxV vars c.1 then (1:Rat)*((c.2:Int):Rat) else f j)
   (fun c' h=>hc c' (Cp _ h)) (by rw [Aj,Aj]; exact hl) (fun q h=>Z4 hg w.1 d.1 h) (fun j=>by
    rw [Kz fT,Kz aA];split
    ·rw [d.2,w.2,hz0]; grind
    ·split
     ·rw [w.2]; grind
     ·exact hf j) f4
  rw [Aj,Aj] at ih;exact ih
theorem Ag5 (hE:F.Exact G) (hT:F.Total G fit) {z:Q} (hz:G z) (hz0:qv z=0):∀ {cs:List (ByteArray × Int)} {cost:List Q},(∀ c ∈ cs,i64 c.2/\fit (0 - ((c.2:Int):Rat)))->(lcsC F z vars cs cost).2=false
 | [],cost,_=>rfl
 | c :: cs,cost,h=>by
  obtain ⟨h1,h2⟩:=h c (Cs ..);have f1:=hT.whole c.2 h1;have w:=hE.whole c.2 h1 f1;have f3:=hT.minus z _ hz w.1 (by rw [hz0,w.2]; exact h2);simp only [lcsC,lcC,f1,f3,Oi];exact Ag5 hE hT hz hz0 fun c' h'=>h c' (Cp _ h')
theorem Ave (hd:Dist vars) (hm:∀ c ∈ cs,c.1 ∈ vars) {W:Nat} (hW:2*vars.length<=W) (j:Nat):qv (at_ q0 ((Cz W).map fun q=>iQ (cstI vars cs q)) j)=G6 vars cs j:=by
 rw [Abg];by_cases hj:j<W
 ·rw [if_pos hj,iQ_v];unfold cstI G6 Simp.formC;by_cases h:j<2*vars.length
  ·rw [if_pos h,if_pos h,T4 hd (L5 aA) hm];by_cases e:j % 2=0
   ·rw [if_pos e,e];show (((cofI vars cs (j / 2))*(1 - 2*((0:Nat):Int)):Int):Rat)=_;rw [show (cofI vars cs (j / 2))*(1 - 2*((0:Nat):Int))=cofI vars cs (j / 2) by omega]
   ·rw [if_neg e,show j % 2=1 by omega];rw [show (cofI vars cs (j / 2))*(1 - 2*((1:Nat):Int))=-cofI vars cs (j / 2) by omega,K9]
  ·rw [if_neg h,if_neg h,Sv]
 ·rw [if_neg hj,Acd aA,Tx]
end
def Lj (l:List RowT) (cs:List (ByteArray × Int)) (nn:Int) (o:Q × Int):Prop :=
 (o.2=1/\(∀ v,Sat v l->qv o.1<=linV v cs+((nn:Int):Rat))/\∃ v,Sat v l/\linV v cs+((nn:Int):Rat)=qv o.1) \/
 (o.2=0/\o.1=iQ 0/\∀ V,∃ v,Sat v l/\linV v cs+((nn:Int):Rat)<V)
theorem Amg {l:List RowT} {cs:List (ByteArray × Int)} {nn:Int} {o o':Q × Int} (h:Lj l cs nn o) (h':Lj l cs nn o'):o.2=o'.2/\qv o.1=qv o'.1:=by
 rcases h with ⟨a1,a2,v,a3,a4⟩|⟨a1,a2,a3⟩ <;> rcases h' with ⟨b1,b2,w,b3,b4⟩|⟨b1,b2,b3⟩
 ·refine ⟨a1.trans b1.symm,?_⟩;have h1:=a2 w b3;have h2:=b2 v a3;rw [b4] at h1; rw [a4] at h2;exact Rat.le_antisymm h1 h2
 ·obtain ⟨u,h1,h2⟩:=b3 (qv o.1);have:=a2 u h1;grind
 ·obtain ⟨u,h1,h2⟩:=a3 (qv o'.1);have:=b2 u h1;grind
 ·exact ⟨a1.trans b1.symm,by rw [a2,b2]⟩
section
variable {vars:List ByteArray} {l:List RowT} {cs:List (ByteArray × Int)}
theorem Aae (hr:∀ r ∈ l,En vars r) (hm:∀ c ∈ cs,c.1 ∈ vars) (hp:(cs.map fun c=>idxV vars c.1).Pairwise (·≠·)) (V:Rat):(∃ v,(sysY vars l).holds v/\(Simp.sum vars.length fun k=>((cofI vars cs k:Int):Rat)*v k)=V)↔∃ v,Sat v l/\linV v cs=V:=by
 constructor
 ·rintro ⟨v,hv,e⟩;refine ⟨fun s=>v (idxV vars s),fun r j3=>?_,by rw [<- e,Aak v hm hp]⟩;obtain ⟨i,hi⟩:=kG j3;have b7:=(Fx.1 hi).1;have hx:=hv i b7;rw [Aan hr b7] at hx;have:rwA l i=r:=by unfold rwA at_; rw [Ag,hi]; rfl
  rw [this] at hx;have e2:(sysY vars l).eq i=r.2.2:=by show (rwA l i).2.2=_; rw [this]
  rw [e2] at hx;exact hx
 ·rintro ⟨v,hv,e⟩;have a4y:∀ s,s ∈ vars->v (at_ ⟨#[]⟩ vars (idxV vars s))=v s:=fun s hs=>by
   have:=Vs hs;unfold at_; rw [this]; rfl
  refine ⟨fun k=>v (at_ ⟨#[]⟩ vars k),fun i hi=>?_,?_⟩
  ·have gf:rwA l i ∈ l:=Dy hi;rw [Aan hr hi];have e2:valR (fun s=>v (at_ ⟨#[]⟩ vars (idxV vars s))) (rwA l i)=valR v (rwA l i):=Tc fun c hc=>a4y _ ((hr _ gf).mem c hc);rw [e2];exact hv _ gf
  ·rw [Aak (fun k=>v (at_ ⟨#[]⟩ vars k)) hm hp,<- e];exact Nm fun c hc=>a4y _ (hm c hc)
end
section
variable {m L L' K:Nat} {R:Nat->Nat->Rat} {b:Nat->Rat}
theorem Wt (Rn:Simp.Run m (L+m) L' K) (ha:Agree m (L+m) (Rn.t 0) (Simp.first m L R b)) (h0:(Rn.t K).c (L+m)=0) :
  Simp.Settled m (L+m) L 0 (Rn.t K)/\∀ x,Simp.Ker m (L+m) (Rn.t K) x↔Simp.Ker m (L+m) (Simp.first m L R b) x:=by
 have hf:=Rn.fits K (Ce _);have hr:=Rn.rights K (Ce _);have hk:∀ x,Simp.Ker m (L+m) (Rn.t K) x↔Simp.Ker m (L+m) (Simp.first m L R b) x:=fun x=>(Rn.ker (Cl _) (Ce _) x).trans (ha.ker x);have hc:∀ x,Simp.Ker m (L+m) (Simp.first m L R b) x->Simp.dot (L+m) (Rn.t K).c x=Simp.dot (L+m) (Simp.first m L R b).c x:=fun x hx=>by
  exact Ya3p
 exact ⟨⟨hf,hr,Simp.art_zero hf hr hk hc h0,fun i hi=>aA⟩,hk⟩
end
section
variable {vars:List ByteArray} {l:List RowT} {cs:List (ByteArray × Int)} {L K:Nat} {sg:Nat->Rat} {sl:Nat->Nat} {R:Nat->Nat->Rat} {b:Nat->Rat} {nn:Int}
theorem Ac6 (hC:Simp.Cols (sysY vars l) L sg sl R b) (hr:∀ r ∈ l,En vars r) (hm:∀ c ∈ cs,c.1 ∈ vars) (hp:(cs.map fun c=>idxV vars c.1).Pairwise (·≠·))
  {t:Simp.Tab} (hS:Simp.Settled l.length (L+l.length) L l.length t) (hk:∀ x,Simp.Ker l.length (L+l.length) t x↔Simp.Ker l.length (L+l.length) (Simp.first l.length L R b) x)
  (Rn:Simp.Run l.length (L+l.length) L K) (h0:Rn.t 0=Simp.second l.length t (G6 vars cs)) (b2:Bool) (h1:b2=true->∀ j,j<L->0<=(Rn.t K).c j) (h2:b2=false->∃ s,s<L/\(Rn.t K).c s<0/\∀ i,i<l.length->(Rn.t K).T i s<=0)
  {o:Q × Int} (ho:(b2=true->o.2=1/\qv o.1=((nn:Int):Rat) - (Rn.t K).c (L+l.length))/\(b2=false->o=(iQ 0,0))):Lj l cs nn o:=by
 cases b2 with
 | true =>
  obtain ⟨o1,o2⟩:=ho.1 rfl;obtain ⟨k1,x,k2,k3⟩:=Simp.second_at hS Rn h0 (h1 rfl);obtain ⟨q1,v,q2,q3⟩:=hC.least (a:=fun k=>((cofI vars cs k:Int):Rat)) (c:=- (Rn.t K).c (L+l.length)) ⟨fun x hx=>k1 x ((Simp.Real.of_ker hk).2 hx),x,(Simp.Real.of_ker hk).1 k2,k3⟩;refine .inl ⟨o1,fun w hw=>?_,?_⟩
  ·obtain ⟨w',e1,e2⟩:=(Aae hr hm hp _).2 ⟨w,hw,rfl⟩;have:=q1 w' e1;rw [show (Simp.sum (sysY vars l).n fun k=>((cofI vars cs k:Int):Rat)*w' k)=linV w cs from e2] at this;rw [o2]; grind
  ·obtain ⟨w,e1,e2⟩:=(Aae hr hm hp _).1 ⟨v,q2,q3⟩;exact ⟨w,e1,by rw [o2,e2]; grind⟩
 | false =>
  have o1:=ho.2 rfl;obtain ⟨s,s1,s2,s3⟩:=h2 rfl;refine .inr ⟨by rw [o1],by rw [o1],fun V=>?_⟩;obtain ⟨v,e1,e2⟩:=hC.none (a:=fun k=>((cofI vars cs k:Int):Rat)) (fun V=>by
   obtain ⟨x,k1,k2⟩:=Simp.second_none hS Rn h0 s1 s2 s3 V;exact ⟨x,(Simp.Real.of_ker hk).1 k1,k2⟩) (V - ((nn:Int):Rat))
  obtain ⟨w,e3,e4⟩:=(Aae hr hm hp _).1 ⟨v,e1,rfl⟩;refine ⟨w,e3,?_⟩;rw [e4];have e5:(Simp.sum vars.length fun k=>((cofI vars cs k:Int):Rat)*v k)<V - ((nn:Int):Rat):=e2;grind
end
theorem Agc {m:Nat} (hm:m<=13):2*(bndY m 1000000000000 (m*1000000000000) 1000000000000*bndY m 1000000000000 (m*1000000000000) 1000000000000)<10000 ^ 200:=by
 have:∀ m,m<14->2*(bndY m 1000000000000 (m*1000000000000) 1000000000000*bndY m 1000000000000 (m*1000000000000) 1000000000000)<10000 ^ 200:=aV
 exact this m aA
theorem Apt {m:Nat} (hm:m<=13):2*(bndY m 1000000000000 1000000000000 1000000000000*bndY m 1000000000000 1000000000000 1000000000000)<10000 ^ 200:=by
 have:∀ m,m<14->2*(bndY m 1000000000000 1000000000000 1000000000000*bndY m 1000000000000 1000000000000 1000000000000)<10000 ^ 200:=aV
 exact this m aA
theorem Agb {m:Nat} (hm:m<=13):2*(bndX m 1000000000000 1000000000000*bndX m 1000000000000 1000000000000)<10000 ^ 200:=by
 have:∀ m,m<14->2*(bndX m 1000000000000 1000000000000*bndX m 1000000000000 1000000000000)<10000 ^ 200:=aV
 exact this m aA
section
variable {vars:List ByteArray} {l:List RowT} {cs:List (ByteArray × Int)} {nn:Int}
theorem As5 (hs:∀ c ∈ cs,c.2.natAbs<=1000000000000) (k:Nat):(cstI vars cs k).natAbs<=1000000000000:=by
 unfold cstI;split
 ·have hc:(Gg cs (at_ ⟨#[]⟩ vars (k / 2))).natAbs<=1000000000000:=by
   rcases Va (v:=at_ ⟨#[]⟩ vars (k / 2)) (cs:=cs) with e|⟨c,h1,h2⟩
   ·rw [e]; simp
   ·rw [<- h2]; exact hs c h1
  rcases iF k with h|h <;> rw [h] <;> omega
 ·simp
theorem Ahf {m N:Nat} {t0:Simp.Tab} (hm:m<=13) (hI:Ints m N 1000000000000 1000000000000 t0) {t:Tb} (hr:Reach m N t0 (tabV t)) (ht:TOk gW m N t) (hn:nn.natAbs<=1000000000000) :
  (WW.qF.minus (iQ nn) (at_ q0 t.cost N)).2=false:=by
 have g1:gW (iQ nn):=iQ_g aC;have g2:gW (at_ q0 t.cost N):=ht.okc _ (Dy fF);obtain ⟨y0,h1,h2,-,w,h4,h5⟩:=Hv aA hI hr (j:=N) aA;have hy:((y0:Int):Rat)≠0:=Gk h1;have hle:bndX m 1000000000000 1000000000000<=bndY m 1000000000000 1000000000000 1000000000000:=by
  unfold bndY;calc bndX m 1000000000000 1000000000000=1*(1*bndX m 1000000000000 1000000000000):=by omega
   _<=_:=Iv aA (F2 _ aA)
 have qy:(1000000000000+1)*bndX m 1000000000000 1000000000000<=bndY m 1000000000000 1000000000000 1000000000000:=by
  unfold bndY;exact jK _ aA
 have hc:qv (at_ q0 t.cost N)=((w:Int):Rat) / ((y0:Int):Rat):=h4;have fj:Hc (qv (iQ nn) - qv (at_ q0 t.cost N)):=by
  have:qv (iQ nn) - qv (at_ q0 t.cost N)=((nn*y0 - w:Int):Rat) / ((y0:Int):Rat):=by rw [iQ_v,hc,Tm,C7]; grind
  rw [this];refine Pc h1 (X:=bndY m 1000000000000 1000000000000 1000000000000) ?_ aA (Apt hm);have h7:(nn*y0).natAbs<=1000000000000*bndX m 1000000000000 1000000000000:=by rw [Ii]; exact Iv hn h2
  rw [O7,Nat.one_mul] at qy;omega
 exact H0.minus _ _ g1 g2 fj
theorem Ai9 {m N:Nat} {t0:Simp.Tab} (hm:m<=13) (hI:Ints m N 1000000000000 1000000000000 t0) {t:Tb} (hr:Reach m N t0 (tabV t)) (ht:TOk gW m N t) (hn:nn.natAbs<=1000000000000) :
  gW (WW.qF.minus (iQ nn) (at_ q0 t.cost N)).1/\qv (WW.qF.minus (iQ nn) (at_ q0 t.cost N)).1=((nn:Int):Rat) - (tabV t).c N:=by
 have g1:gW (iQ nn):=iQ_g aC;have g2:gW (at_ q0 t.cost N):=ht.okc _ (Dy fF);have h:=Em.minus _ _ g1 g2 (Ahf hm hI hr ht hn);exact ⟨h.1,by rw [h.2,iQ_v]; rfl⟩
theorem Aiz (hd:Dist vars) (hm:l.length<=13) (hr:∀ r ∈ l,En vars r/\Et 1000000000000 r) (hc:∀ c ∈ cs,c.1 ∈ vars) (hp:(cs.map fun c=>idxV vars c.1).Pairwise (·≠·)) (hs:∀ c ∈ cs,c.2.natAbs<=1000000000000) (hn:nn.natAbs<=1000000000000)
  {K:Nat} (hK:(2*vars.length+l.length+l.length) ^ l.length+1<=K) {b:Bool} {t':Tb} (hl:H5 (2*vars.length+l.length+l.length) K (Ds l vars)=some (b,t')) (hf:Gw t'=true) {K2:Nat} (hK2:(2*vars.length+l.length+l.length) ^ l.length+1<=K2) :
  t'.cost.length=2*vars.length+l.length+l.length+1/\∃ b2 t2,H5 (2*vars.length+l.length) K2 (Acq (2*vars.length+l.length) (2*vars.length+l.length+l.length+1) vars cs t')=some (b2,t2)/\Lj l cs nn (Lx nn b2 t2)/\gW (Lx nn b2 t2).1:=by
 have bz:∀ r ∈ l,En vars r:=fun r h=>(hr r h).1;obtain ⟨h1,h2,h3⟩:=Abj hd hm hr;have hR:∃ R:Simp.Run l.length (2*vars.length+l.length+l.length) (2*vars.length+l.length+l.length) 0,R.t 0=tabV (Ds l vars) :=
  ⟨Simp.Run.none (h3.fit (Simp.first_fit _ _ _ _)) (Ce _) (fun i hi=>by
   rw [h3.T i _ hi aA];show 0<=if 2*vars.length+l.length+l.length<2*vars.length+l.length then _ else if 2*vars.length+l.length+l.length<2*vars.length+l.length+l.length then _ else _
   rw [if_neg aA,if_neg aA];have h:=Mz (vars:=vars) (l:=l) hi;rw [M1 hi] at h;unfold rowR at h;rw [if_pos aA] at h;show 0<=Ks vars l.length i (rwA l i) (2*vars.length+l.length+l.length);unfold Ks;rw [if_neg aA,if_neg aA,if_neg (fun h=>aA),if_pos rfl]; exact h),rfl⟩
 obtain ⟨R,h0⟩:=hR;obtain ⟨b',t'',e1,e2,K',R',e3,e4,-,-⟩:=Qv (Agu (M:=1000000000000) (Mc:=l.length*1000000000000) aA h2 (K0 hm rfl)) K R h0 h0 h1 aA;rw [hl] at e1;obtain ⟨rfl,rfl⟩:=Prod.mk.inj (Option.some.inj e1);have hz:(R'.t K').c (2*vars.length+l.length+l.length)=0:=by rw [e4]; exact (P8 Em e2).1 hf
 obtain ⟨s1,s2⟩:=Wt R' (by rw [e3]; exact h3) hz;rw [e4] at s1 s2;have b9:Reach l.length (2*vars.length+l.length+l.length) (tabV (Ds l vars)) (tabV t'):=by
  have:=Reach.run R';rw [e3,e4] at this;exact this
 have hW:FitW l.length (2*vars.length+l.length+l.length) (tabV (Ds l vars)):=Alt (M:=1000000000000) (Mc:=l.length*1000000000000) aA h2 (K0 hm rfl);obtain ⟨c1,c2,c3,c4⟩:=P2 hW (Ia (2*vars.length+l.length) l.length) l.length 0 aA e2 b9 s1;have jj:t'.rows.length=l.length:=e2.rows;refine ⟨e2.cost,?_⟩;have hfi:=fun j=>Ace (vars:=vars) (cs:=cs) hs j;have hx:=V3 (L:=2*vars.length+l.length) (f:=G6 vars cs) c1 c3.fit (fun j hj=>Acd aA) (fun k hk j hj=>Anj (M:=1000000000000) (Mc:=l.length*1000000000000) (Mf:=1000000000000) aA h2 (Agc hm) c2 (fun j _=>hfi j) hk hj) l.length 0
  (cost:=(Cz (2*vars.length+l.length+l.length+1)).map fun a=>iQ (cstI vars cs a)) aA (by simp) (fun q h=>by
   obtain ⟨k,-,rfl⟩:=Ft.1 h;have:=As5 (vars:=vars) hs k;exact iQ_g aC) (fun j=>Ave hd hc aA j)
 rw [Fg,Fg] at hx;have hl2:Acq (2*vars.length+l.length) (2*vars.length+l.length+l.length+1) vars cs t'={ cleanR (2*vars.length+l.length) l.length 0 t' with cost:=lessBR (2*vars.length+l.length) (cleanR (2*vars.length+l.length) l.length 0 t').basis (cleanR (2*vars.length+l.length) l.length 0 t').rows ((Cz (2*vars.length+l.length+l.length+1)).map fun a=>iQ (cstI vars cs a)) }:=by
  unfold Acq; rw [jj]
 rw [hl2];generalize cleanR (2*vars.length+l.length) l.length 0 t'=t1 at c1 c2 c3 c4 hx ⊢;generalize lessBR (2*vars.length+l.length) t1.basis t1.rows ((Cz (2*vars.length+l.length+l.length+1)).map fun a=>iQ (cstI vars cs a))=co at hx ⊢;obtain ⟨x1,x2,x3⟩:=hx;have ai:TOk gW l.length (2*vars.length+l.length+l.length) { t1 with cost:=co }:=⟨c1.rows,c1.basis,x1,c1.rowW,c1.okr,x2⟩;have htv:tabV { t1 with cost:=co }=Simp.second l.length (tabV t1) (G6 vars cs):=by
  unfold Simp.second;rw [<- funext x3]; rfl
 have zu:Ints l.length (2*vars.length+l.length+l.length) 1000000000000 1000000000000 ⟨(tabV (Ds l vars)).T,G6 vars cs,(tabV (Ds l vars)).B⟩:=⟨h2.1,fun j _=>hfi j⟩;have ae:Reach l.length (2*vars.length+l.length+l.length) ⟨(tabV (Ds l vars)).T,G6 vars cs,(tabV (Ds l vars)).B⟩ (Simp.second l.length (tabV t1) (G6 vars cs)) :=
  ⟨Simp.second_fit c3.fit,fun x hx=>(Simp.second_ker x).2 (c2.ker x hx),fun x hx=>Simp.second_cost (c2.ker x hx)⟩
 have hF2:=(Alt aA zu (Agb hm)).fits (L:=2*vars.length+l.length) ae;have fi:∃ R:Simp.Run l.length (2*vars.length+l.length+l.length) (2*vars.length+l.length) 0,R.t 0=Simp.second l.length (tabV t1) (G6 vars cs):=⟨Simp.Run.none (Simp.second_fit c3.fit) (Ia _ _) c3.right,rfl⟩;obtain ⟨R2,i0⟩:=fi;obtain ⟨b2,t2,f1,f2,K3,R3,f3,f4,f5,f6⟩:=Qv hF2 K2 R2 i0 (i0.trans htv.symm) ai aA;refine ⟨b2,t2,f1,?_⟩;have hr3:Reach l.length (2*vars.length+l.length+l.length) ⟨(tabV (Ds l vars)).T,G6 vars cs,(tabV (Ds l vars)).B⟩ (tabV t2):=by
  have:=Reach.run R3;rw [f3,f4] at this;exact ae.trans this
 have dz:=Ai9 hm zu hr3 f2 hn;refine ⟨Ac6 (Agk bz) bz hc hp (t:=tabV t1) c3 (fun x=>(c4 x).trans (s2 x)) R3 f3 b2 (fun h=>by rw [f4]; exact f5 h) (fun h=>by rw [f4]; exact f6 h) ⟨fun h=>?_,fun h=>?_⟩,?_⟩
 ·subst h;refine ⟨rfl,?_⟩;unfold Lx;rw [if_pos rfl,f2.cost,Oh,f4];exact dz.2
 ·subst h; rfl
 ·unfold Lx;cases b2 with
  | true=>rw [if_pos rfl,f2.cost,Oh]; exact dz.1
  | false=>exact Hy aC
end
section
variable {F:Fld} {G:Q->Prop} {vars:List ByteArray} {l:List RowT} {cs:List (ByteArray × Int)} {L K:Nat} {sg:Nat->Rat} {sl:Nat->Nat} {R:Nat->Nat->Rat} {b:Nat->Rat} {nn:Int} {t0:Simp.Tab}
theorem Amf (hE:F.Exact G) (hC:Simp.Cols (sysY vars l) L sg sl R b) (hr:∀ r ∈ l,En vars r) (hm:∀ c ∈ cs,c.1 ∈ vars) (hp:(cs.map fun c=>idxV vars c.1).Pairwise (·≠·)) (hv:2*vars.length<=L) (uj:∀ c ∈ cs,i64 c.2)
  (hs:Uv F G l.length (L+l.length) t0) (fh:Uv F G l.length (L+l.length) ⟨t0.T,G6 vars cs,t0.B⟩)
  (hfl:F.stop=true\/((F.whole 0).2=false/\(∀ cost,(lcsC F (F.whole 0).1 vars cs cost).2=false)/\∀ (t:Tb) (cost:List Q),Reach l.length (L+l.length) t0 (tabV t)->TOk G l.length (L+l.length) t->cost.length=L+l.length+1->(∀ q ∈ cost,G q)->(∀ j,qv (at_ q0 cost j)=G6 vars cs j)->(lessBs F t.basis t.rows cost).2=false))
  {t:Tb} (ht:TOk G l.length (L+l.length) t) (hL:t.real=L) (a6q:t.fl=false) (b9:Reach l.length (L+l.length) t0 (tabV t)) (hS:Simp.Settled l.length (L+l.length) L 0 (tabV t)) (hk:∀ x,Simp.Ker l.length (L+l.length) (tabV t) x↔Simp.Ker l.length (L+l.length) (Simp.first l.length L R b) x) (hK:(L+l.length) ^ l.length+1<=K) :
  ∃ b2 u,Gp F K (Je F t cs vars)=some (b2,u)/\((F.stop=true/\u.fl=true)\/(u.fl=false/\TOk G l.length (L+l.length) u/\Reach l.length (L+l.length) ⟨t0.T,G6 vars cs,t0.B⟩ (tabV u)/\∀ o:Q × Int,((b2=true->o.2=1/\qv o.1=((nn:Int):Rat) - (tabV u).c (L+l.length))/\(b2=false->o=(iQ 0,0)))->Lj l cs nn o)):=by
 have hup:F.stop=true->(Je F t cs vars).fl=true->∃ b2 u,Gp F K (Je F t cs vars)=some (b2,u)/\((F.stop=true/\u.fl=true)\/(u.fl=false/\TOk G l.length (L+l.length) u/\Reach l.length (L+l.length) ⟨t0.T,G6 vars cs,t0.B⟩ (tabV u)/\∀ o:Q × Int,((b2=true->o.2=1/\qv o.1=((nn:Int):Rat) - (tabV u).c (L+l.length))/\(b2=false->o=(iQ 0,0)))->Lj l cs nn o)):=fun s1 s2=>by
  obtain ⟨K',rfl⟩:∃ n',K=n'+1:=⟨K - 1,aA⟩;exact ⟨_,_,Nf s1 s2,.inl ⟨s1,s2⟩⟩
 have a4z:Je F t cs vars={ settleF F l.length 0 t with cost:=(lessBs F (settleF F l.length 0 t).basis (settleF F l.length 0 t).rows (lcsC F (F.whole 0).1 vars cs (Cf (settleF F l.length 0 t).cost.length (F.whole 0).1)).1).1,fl:=(((settleF F l.length 0 t).fl || (F.whole 0).2) || (lcsC F (F.whole 0).1 vars cs (Cf (settleF F l.length 0 t).cost.length (F.whole 0).1)).2) || (lessBs F (settleF F l.length 0 t).basis (settleF F l.length 0 t).rows (lcsC F (F.whole 0).1 vars cs (Cf (settleF F l.length 0 t).cost.length (F.whole 0).1)).1).2 }:=by
  unfold Je; rw [ht.rows]
 rcases Ns hE hs (Ia L l.length) l.length 0 aA ht hL a6q b9 hS with ⟨s1,s2⟩|hse
 ·exact hup s1 (by rw [a4z]; simp [s2])
 ·rw [a4z] at hup ⊢;generalize settleF F l.length 0 t=t1 at hse hup ⊢;obtain ⟨c0,c1,cL,c2,c3,c4⟩:=hse;have hz:(F.whole 0).2=false->G (F.whole 0).1/\qv (F.whole 0).1=0:=fun h=>by
   have:=hE.whole 0 aC h;exact ⟨this.1,by rw [this.2]; rfl⟩
  have hco:(F.whole 0).2=false->(lcsC F (F.whole 0).1 vars cs (Cf t1.cost.length (F.whole 0).1)).2=false->(lcsC F (F.whole 0).1 vars cs (Cf t1.cost.length (F.whole 0).1)).1.length=L+l.length+1/\(∀ q ∈ (lcsC F (F.whole 0).1 vars cs (Cf t1.cost.length (F.whole 0).1)).1,G q)/\∀ j,qv (at_ q0 (lcsC F (F.whole 0).1 vars cs (Cf t1.cost.length (F.whole 0).1)).1 j)=G6 vars cs j:=fun f2 f3=>by
   obtain ⟨z1,z2⟩:=hz f2;have hx:=Amb (f:=fun _=>0) hE z1 z2 (cs:=cs) (vars:=vars) (cost:=Cf t1.cost.length (F.whole 0).1) (fun c hc=>⟨uj c hc,hm c hc⟩) (by rw [I1,c1.cost]; omega) (fun q hq=>by rw [List.eq_of_mem_replicate hq]; exact z1) (fun j=>by
    unfold at_;rw [Ag,jD];split
    ·exact z2
    ·exact Tx) f3
   exact ⟨hx.1.trans (by rw [I1,c1.cost]),hx.2.1,fun j=>by rw [<- Air hm hp j]; exact hx.2.2 j⟩
  have r6:F.stop=true\/((F.whole 0).2=false/\(lcsC F (F.whole 0).1 vars cs (Cf t1.cost.length (F.whole 0).1)).2=false/\(lessBs F t1.basis t1.rows (lcsC F (F.whole 0).1 vars cs (Cf t1.cost.length (F.whole 0).1)).1).2=false):=by
   rcases hfl with h|⟨h1,h2,h3⟩
   ·exact .inl h
   ·obtain ⟨k1,k2,k3⟩:=hco h1 (h2 _);exact .inr ⟨h1,h2 _,h3 t1 _ c2 c1 k1 k2 k3⟩
  generalize lcsC F (F.whole 0).1 vars cs (Cf t1.cost.length (F.whole 0).1)=co at hco r6 hup ⊢;cases hff:(((t1.fl || (F.whole 0).2) || co.2) || (lessBs F t1.basis t1.rows co.1).2) with
  | true =>
   rw [hff] at hup;rcases r6 with h|⟨h1,h2,h3⟩
   ·exact hup h rfl
   ·rw [c0,h1,h2,h3] at hff; cases hff
  | false =>
   simp only [Ff] at hff;obtain ⟨⟨⟨-,f2⟩,f3⟩,f4⟩:=hff;obtain ⟨k1,k2,k3⟩:=hco f2 f3;have hx:=Acu (f:=G6 vars cs) hE c1 (fun i hi=>by have:=c3.fit.lt i hi; omega) l.length 0 (cost:=co.1) aA k1 k2 k3 (by rw [Fg,Fg]; exact f4);rw [Fg,Fg] at hx;generalize (lessBs F t1.basis t1.rows co.1).1=c5 at hx ⊢;obtain ⟨x1,x2,x3⟩:=hx;have ai:TOk G l.length (L+l.length) { t1 with cost:=c5,fl:=false }:=⟨c1.rows,c1.basis,x1,c1.rowW,c1.okr,x2⟩;have htv:tabV { t1 with cost:=c5,fl:=false }=Simp.second l.length (tabV t1) (G6 vars cs):=by
    unfold Simp.second;rw [<- funext x3]; rfl
   have ae:Reach l.length (L+l.length) ⟨t0.T,G6 vars cs,t0.B⟩ (Simp.second l.length (tabV t1) (G6 vars cs)) :=
    ⟨Simp.second_fit c3.fit,fun x hx=>(Simp.second_ker x).2 (c2.ker x hx),fun x hx=>Simp.second_cost (c2.ker x hx)⟩
   have fi:∃ R:Simp.Run l.length (L+l.length) L 0,R.t 0=Simp.second l.length (tabV t1) (G6 vars cs):=⟨Simp.Run.none (Simp.second_fit c3.fit) (Ia _ _) c3.right,rfl⟩;obtain ⟨R2,i0⟩:=fi;obtain ⟨b2,u,e1,e2⟩:=Zi hE (fh.safe ae) K R2 i0 (i0.trans htv.symm) ai cL rfl aA;refine ⟨b2,u,e1,?_⟩;rcases e2 with e2|⟨g1,g2,K3,R3,f5,f6,f7,f8⟩
   ·exact .inl e2
   ·refine .inr ⟨g1,g2,?_,fun o ho=>?_⟩
    ·have:=Reach.run R3;rw [f5,f6] at this;exact ae.trans this
    ·exact Ac6 hC hr hm hp (t:=tabV t1) c3 (fun x=>(c4 x).trans (hk x)) R3 f5 b2 (fun h=>by rw [f6]; exact f7 h) (fun h=>by rw [f6]; exact f8 h) (by rw [f6]; exact ho)
end
section
variable {F:Fld} {G:Q->Prop}
theorem Xt:∀ {n:Nat} {t t':Tb} {b:Bool},Gp F n t=some (b,t')->t'.real=t.real
 | 0,_,_,_,h=>aR
 | n+1,t,t',b,h=>by
  rw [Gp] at h;split at h
  ·cases h; rfl
  ·split at h
   ·cases h; rfl
   ·split at h
    ·cases h; rfl
    ·exact (Xt h).trans rfl
theorem Ame (hE:F.Exact G) {m N:Nat} {u:Tb} (hu:TOk G m N u) {nn:Int} (hn:i64 nn) (h:(Gt F u nn).2=false):G (Gt F u nn).1/\qv (Gt F u nn).1=((nn:Int):Rat) - (tabV u).c N:=by
 unfold Gt at h ⊢;simp only [Ff] at h ⊢;obtain ⟨h1,h2⟩:=h;have w:=hE.whole nn hn h1;have g2:G (at_ q0 u.cost (u.cost.length - 1)):=hu.okc _ (Dy (by rw [hu.cost]; omega));have d:=hE.minus _ _ w.1 g2 h2;refine ⟨d.1,?_⟩;rw [d.2,w.2,hu.cost,Oh]; rfl
theorem Uv.self {m N L:Nat} {t0:Simp.Tab} (hs:Uv F G m N t0):Safe F G m N L t0:=by
 rcases hs with hs|⟨fit,hT,hs⟩
 ·exact .inl hs
 ·refine .inr ⟨fit,hT,fun K R h0=>?_⟩;have hr:=Reach.run R;rw [h0] at hr;obtain ⟨h1,h2⟩:=hs _ hr;exact ⟨fun c hc=>h1 c dX,h2⟩
variable {vars:List ByteArray} {l:List RowT} {cs:List (ByteArray × Int)} {K:Nat} {nn:Int}
def AnsS (l:List RowT) (cs:List (ByteArray × Int)) (nn:Int) (a:Ans):Prop:=(a.f=true↔∃ v,Sat v l)/\(a.f=true->Lj l cs nn (leaA a))/\(a.f=false->leaA a=((0,1),-1))/\gW (leaA a).1
theorem Yj (hE:F.Exact G) (a40:∀ x,G x->gW (F.rat x)/\qv (F.rat x)=qv x) (hr:∀ r ∈ l,En vars r) (hm:∀ c ∈ cs,c.1 ∈ vars) (hp:(cs.map fun c=>idxV vars c.1).Pairwise (·≠·)) (uj:∀ c ∈ cs,i64 c.2) (hn:i64 nn) (hb0:F.stop=true\/(Bj F l vars false).fl=false)
  (hs:Uv F G l.length (2*vars.length+neqs l+l.length) (tabV (Bj F l vars false))) (fh:Uv F G l.length (2*vars.length+neqs l+l.length) ⟨(tabV (Bj F l vars false)).T,G6 vars cs,(tabV (Bj F l vars false)).B⟩)
  (hfl:F.stop=true\/((F.whole 0).2=false/\(∀ cost,(lcsC F (F.whole 0).1 vars cs cost).2=false)/\∀ (t:Tb) (cost:List Q),Reach l.length (2*vars.length+neqs l+l.length) (tabV (Bj F l vars false)) (tabV t)->TOk G l.length (2*vars.length+neqs l+l.length) t->cost.length=2*vars.length+neqs l+l.length+1->(∀ q ∈ cost,G q)->(∀ j,qv (at_ q0 cost j)=G6 vars cs j)->(lessBs F t.basis t.rows cost).2=false))
  (wo:F.stop=true\/∀ t,Reach l.length (2*vars.length+neqs l+l.length) (tabV (Bj F l vars false)) (tabV t)->TOk G l.length (2*vars.length+neqs l+l.length) t->(Bq F t).2=false)
  (hla:F.stop=true\/∀ u,Reach l.length (2*vars.length+neqs l+l.length) ⟨(tabV (Bj F l vars false)).T,G6 vars cs,(tabV (Bj F l vars false)).B⟩ (tabV u)->TOk G l.length (2*vars.length+neqs l+l.length) u->(Gt F u nn).2=false)
  (hK:kMax vars l<=K) :
  ∃ a ok,Jh F K l vars false cs nn=some (a,ok)/\(F.stop=false->ok=true)/\(ok=true->AnsS l cs nn a):=by
 have hK':(2*vars.length+neqs l+l.length) ^ l.length+1<=K:=hK;obtain ⟨b,t',h1,h2⟩:=Abk hE hr hb0 hs.self hK';have dd:=(Xt h1).trans Uz;unfold Jh;rw [h1];simp only;rcases h2 with ⟨s1,s2⟩|⟨h3,h4,K1,R,h5,h6,h7,h8⟩
 ·rw [if_pos (by rw [s1,s2]; rfl)];exact ⟨_,_,rfl,fun h=>(by rw [s1] at h; cases h),fun h=>aR⟩
 ·rw [if_neg (by rw [h3]; simp)];have hfs:=X8 hE hr h4 R h6 h7 h8;cases hf:Gw t' with
  | false =>
   rw [if_neg (by simp)];rw [hf] at hfs;exact ⟨_,_,rfl,fun h=>eK,fun _=>⟨hfs,fun h=>aR,fun _=>rfl,Hy aC⟩⟩
  | true =>
   rw [if_pos rfl];rw [hf] at hfs;have hz:(R.t K1).c (2*vars.length+neqs l+l.length)=0:=by rw [h6]; exact (P8 hE h4).1 hf
   obtain ⟨s1,s2⟩:=Wt R h7 hz;rw [h6] at s1 s2;have b9:Reach l.length (2*vars.length+neqs l+l.length) (tabV (Bj F l vars false)) (tabV t'):=by
    have:=Reach.run R;rw [h5,h6] at this;exact this
   cases hpf:(Bq F t').2 with
   | true =>
    rcases wo with aj|h
    ·obtain ⟨K',rfl⟩:∃ n',K=n'+1:=⟨K - 1,aA⟩;have hlt:(Je F { t' with fl:=t'.fl || true } cs vars).fl=true:=by
      unfold Je;simp only;rw [R7 (by simp)]; rfl
     rw [Nf aj hlt];simp only;exact ⟨_,_,rfl,fun h=>(by rw [aj] at h; cases h),fun h=>(by rw [aj,hlt] at h; simp at h)⟩
    ·rw [h t' b9 h4] at hpf; cases hpf
   | false =>
    rw [h3];simp only [Fk];obtain ⟨b2,u,e1,e2⟩:=Amf (nn:=nn) hE (Ald hr) hr hm hp (Ia _ _) uj hs fh hfl (t:={ t' with fl:=false }) (h4.flag false) dd rfl b9 s1 s2 hK';rw [e1];rcases e2 with ⟨g1,g2⟩|⟨g1,g2,g3,g4⟩
    ·cases b2 with
     | true=>exact ⟨_,_,rfl,fun h=>(by rw [g1] at h; cases h),fun h=>(by rw [g1,g2] at h; simp at h)⟩
     | false=>exact ⟨_,_,rfl,fun h=>(by rw [g1] at h; cases h),fun h=>(by rw [g1,g2] at h; simp at h)⟩
    ·cases b2 with
     | true =>
      simp only;refine ⟨_,_,rfl,fun h=>eK,fun h=>?_⟩;have i8:(Gt F u nn).2=false:=by
       cases aj:F.stop with
       | true=>rw [aj,g1] at h; simpa using h
       | false =>
        rcases hla with h'|h'
        ·rw [aj] at h'; cases h'
        ·exact h' u g3 g2
      have:=Ame hE g2 hn i8;refine ⟨hfs,fun _=>g4 _ ⟨fun _=>⟨rfl,?_⟩,fun h=>aR⟩,fun h=>aR,(a40 _ this.1).1⟩;show qv (F.rat (Gt F u nn).1)=_;rw [(a40 _ this.1).2,this.2]
     | false =>
      simp only;exact ⟨_,_,rfl,fun h=>eK,fun h=>⟨hfs,fun _=>g4 _ ⟨fun h=>aR,fun _=>rfl⟩,fun h=>aR,Hy aC⟩⟩
end
end
section
open Go Go.Proofs.Tryz
open Go.Proofs.Tryz renaming func59->ga42,ntmps59->ga43,results59->ga44
set_option maxRecDepth 100000
set_option maxHeartbeats 20000000
set_option maxRecDepth 100000
section
variable (S:List Ent) (tk:List Nat) (k iq eq:Nat)
namespace WW
theorem An3:Aw32:=Ma32
end WW
end
end
section
open Go Go.Proofs.Tryz
set_option maxHeartbeats 4000000
set_option maxRecDepth 100000
def askS (K:Nat) (l:List RowT) (vars:List ByteArray) (cs:List (ByteArray × Int)) (nn:Int):Option Ans :=
 match Jh QQ.qF K l vars false cs nn with
 | none=>none
 | some (a,true)=>some a
 | some (_,false)=>(Jh WW.qF K l vars false cs nn).map (·.1)
section
variable (S:List Ent) (tk:List Nat) (k:Nat)
theorem Adm (cs:List (ByteArray × Int)) (nn:Int) (pi pe:Nat) (hpE:entAt S pi pe=some [Ao cs,.prim (.int .i64 nn)]) (hcc:∀ c ∈ cs,i64 c.2) (hnn:i64 nn) (hcl:cs.length<=24) (l:List RowT) (hl:l.length<=1000) (hn:(Bh l).length<=1000) (vars:List ByteArray) (gm:vars.length<=1000) (hcv:∀ c ∈ cs,c.1 ∈ vars) (hv:∀ r ∈ l,∀ c ∈ r.1,c.1 ∈ vars) (hc:∀ r ∈ l,i64 r.2.1/\∀ c ∈ r.1,i64 c.2) (dq:fewC l) (K:Nat) (a:Ans) (hS:askS K l vars cs nn=some a) :
  ∃ r,cL prog 31 [Ar l,Aq vars,.ref pi pe 0] S tk k=some r/\AskP S a r:=by
 obtain ⟨Φ,hΦ⟩:∃ Φ,Φ=AskP S a:=⟨_,rfl⟩;rw [<- hΦ];have dt:=Aw hpE;unfold askS at hS;cases h1:Jh QQ.qF K l vars false cs nn with
 | none=>rw [h1] at hS; simp at hS
 | some p =>
  obtain ⟨a1,ok1⟩:=p;rw [h1] at hS;obtain ⟨r1,dc,S1,tk1,k1,c1,c2,q1,b1,rfl,hl1,bo,jd,fh⟩:=QQ.An3 (S++[(⟨k,ans0⟩:Ent)]++[(⟨k+1,[.prim (.bool false)]⟩:Ent)]) tk (k+1+1) (S.length+1) (k+1) cs nn pi pe (Ad (Ad hpE)) aA hcc hnn hcl l false hl hn vars gm hcv hv hc dq (by simp) Za47 K a1 ok1 h1;simp only [ans0,Ar,Aq] at dc;have hi1:Tv prog 95=false:=aI
  have wu:Tv prog 100=false:=aI
  have a1v:S1.length=S.length+2:=by rw [hl1]; simp
  have b8:∀ x:Ent,(S++[x]).length=S.length+1:=fun x=>by simp
  have bp:∀ x y:Ent,(S++[x]++[y]).length=S.length+2:=fun x y=>by simp
  have a1k:∀ j,j<S.length->nth S1 j=nth S j:=fun j hj=>by
   rw [bo j fU aA,Ax (by rw [b8]; omega),Ax hj]
  have zl:entAt S1 S.length k=some ans0:=by
   rw [Aa (bo S.length fU aA)];exact Ad Az
  obtain ⟨x1,ru⟩:∃ x1,x1=ansC a1.f a1.pt a1.nu c1 c2 q1 b1:=⟨_,rfl⟩;rw [<- ru] at dc;have tl:x1.length=8:=by rw [ru]; exact Gm
  have a1w:x1.all leafOk=true:=by rw [ru]; exact Ky
  have a1x:∀ m S,x1.map (fz1 m S)=x1:=fun m S=>by rw [ru]; exact Ad7
  have a1y:takeN 8 x1=some x1:=by
   have:=Ld (r:=[]) tl;exact Ya1d
  have fc:over ans0 0 x1=some x1:=H6 (by rw [tl]; rfl);have jn:∀ cs,entAt (S1++[⟨k1,cs⟩]) S1.length k1=some cs:=fun cs=>Az;have gc:∀ e:Ent,entAt (S1++[e]) S.length k=some ans0:=fun e=>Ad zl;have hP1:∀ (e:Ent) cs,entAt (put (S1++[e]) S.length ⟨k,cs⟩) S.length k=some cs:=fun e cs=>Ae aD;have m8:∀ x e:Ent,Ib S.length (put (S1++[x]) S.length e)=S:=fun x e=>Aey Za4f fun j hj=>by
   rw [B6 hj,Ab aA,Ax aA];exact a1k j hj
  simp only [ans0] at fc gc;refine opG func31 ntmps31 ?_;cases ok1 with
  | true =>
   simp only [A8] at hS;subst hS;exact Ya0e
  | false =>
   cases h2:Jh WW.qF K l vars false cs nn with
   | none=>rw [h2] at hS; simp at hS
   | some p =>
    obtain ⟨a2,ok2⟩:=p;rw [h2] at hS;simp only [C8,A8] at hS;subst hS;obtain ⟨r2,hc2,S2,tk2,k2,c3,c4,q2,b2,rfl,hl2,bm,qx,wy⟩:=WW.An3 (S1++[(⟨k1,x1⟩:Ent)]) tk1 (k1+1) (S.length+1) 0 cs nn pi pe (Ad (by rw [Aa (a1k pi dt)]; exact hpE)) aA hcc hnn hcl l false hl hn vars gm hcv hv hc dq aD ⟨⟩ K a2 ok2 h2;simp only [Ar,Aq] at hc2;have a58:S2.length=S.length+3:=by rw [hl2]; simp; omega
    obtain ⟨x2,vf⟩:∃ x2,x2=ansC a2.f a2.pt a2.nu c3 c4 q2 b2:=⟨_,rfl⟩;rw [<- vf] at hc2;have uu:x2.length=8:=by rw [vf]; exact Gm
    have a6r:x2.all leafOk=true:=by rw [vf]; exact Ky
    have a6s:∀ m S,x2.map (fz1 m S)=x2:=fun m S=>by rw [vf]; exact Ad7
    have a6t:takeN 8 x2=some x2:=by
     have:=Ld (r:=[]) uu;exact Ya1d
    have ja:over x1 0 x2=some x2:=H6 (by rw [tl,uu]);have u5:over ans0 0 x2=some x2:=H6 (by rw [uu]; rfl);have h2N:entAt S2 S1.length k1=some x1:=by rw [Aa (bm _ (by simp) aA)]; exact Az
    have h20:entAt S2 S.length k=some ans0:=by rw [Aa (bm _ aD aA),Ad zl]
    have uo:∀ cs,entAt (put S2 S1.length ⟨k1,cs⟩) S1.length k1=some cs:=fun cs=>Ae aA;have a1l:∀ x:Ent,entAt (put S2 S1.length x) S.length k=some ans0:=fun x=>by rw [Ah aA]; exact h20
    have a3o:∀ (x:Ent) cs,entAt (put (put S2 S1.length x) S.length ⟨k,cs⟩) S.length k=some cs:=fun x cs=>Ae bQ;have hbl:bldA (some []) (fieldsOf prog 100) []=some (.agg []):=aI
    have a34:∀ x e:Ent,Ib S.length (put (put S2 S1.length x) S.length e)=S:=fun x e=>Aey eW fun j hj=>by
     rw [B6 hj,Ab aA,Ab aA,bm _ aD aA,Ax aA];exact a1k j hj
    simp only [ans0] at u5 a1l;simp (maxSteps:=10^6)+contextual(disch:=try exact dqd)only[evg1,simprocAttr,Cb,Bg,Cc,results31,Ar,Aq,ifcA,hi1,wu,b8,dc,jn,gc,hP1,fc,tl,a1w,a1y,a1x,put_new,hc2,h2N,ja,uo,a1l,u5,a3o,uu,a6r,a6t,a6s,hbl];rw [hΦ,a34,vf];exact ⟨_,_,c3,c4,q2,b2,rfl,qx,wy⟩
end
end
section
open Go
theorem Av0 {x:Q} (h:okS x):gW (QQ.qF.rat x)/\qv (QQ.qF.rat x)=qv x:=by
 obtain ⟨h1,h2,h3,h4⟩:=h;have hd:x.2≠0:=aA
 have hb:2147483648<10000 ^ 200:=aV
 exact Ui (Uj hd ⟨x.1,x.2,hd,rfl,aA,aA⟩)
theorem Ahb {f:Nat->Q × Bool} (h:∀ k,(f k).2=false):∀ {n k:Nat},(Ga f n k).2=false
 | 0,_=>rfl
 | n+1,k=>by rw [Ga,h k,Ahb h]; rfl
theorem Agi {basis:List Nat} {k i:Nat} : ∀ {rows:List (List Q)} {j:Nat},Kp basis k j rows=some i->i<j+rows.length
 | [],_,h=>aR
 | r :: l,j,h=>by
  rw [Kp] at h;split at h
  ·cases h; rw [Ch]; omega
  ·have:=Agi h; rw [Ch]; omega
section
variable {m N:Nat} {t0:Simp.Tab}
theorem Aqm {M Mc:Nat} (hM:1<=M) (hI:Ints m N M Mc t0) (hX:2*(bndX m M Mc*bndX m M Mc)<10000 ^ 200) {t:Tb} (hr:Reach m N t0 (tabV t)) (ht:TOk gW m N t):(Bq WW.qF t).2=false:=by
 obtain ⟨y0,h1,h2,h3,-⟩:=Hv hM hI hr (j:=N) aA;have hc:∀ k,gW (Db WW.qF t k).1/\(Db WW.qF t k).2=false/\∃ y:Int,qv (Db WW.qF t k).1=((y:Int):Rat) / ((y0:Int):Rat)/\y.natAbs<=bndX m M Mc:=fun k=>by
  unfold Db;cases e:Kp t.basis k 0 t.rows with
  | none=>exact ⟨Hy aC,rfl,0,by show qv (iQ 0)=_; rw [iQ_v,Sv]; grind,by simp⟩
  | some i =>
   have hi:i<m:=by have:=Agi e; rw [ht.rows] at this; omega
   have bl:=Ep ht hi;obtain ⟨y,e1,e2⟩:=h3 i hi;refine ⟨ht.okr _ bl _ (Dy (by rw [ht.rowW _ bl,ht.cost]; omega)),rfl,y,?_,e2⟩;show qv (at_ q0 (Ba t i) (t.cost.length - 1))=_;rw [ht.cost,Oh]; exact e1
 unfold Bq;refine Ahb fun k=>?_;obtain ⟨a1,a2,y,a3,a4⟩:=hc (2*k);obtain ⟨b1,b2,z,b3,b4⟩:=hc (2*k+1);have:=H0.minus _ _ a1 b1 (by rw [a3,b3]; exact Alv h1 h1 a4 h2 b4 h2 hX);unfold ptF;simp only;rw [a2,b2,this]; rfl
end
section
variable {vars:List ByteArray} {l:List RowT} {cs:List (ByteArray × Int)} {K:Nat} {nn:Int}
theorem Aps (hl:l.length<=13) (hr:∀ r ∈ l,En vars r/\Et 1000000000000 r) (hm:∀ c ∈ cs,c.1 ∈ vars) (hp:(cs.map fun c=>idxV vars c.1).Pairwise (·≠·)) (hs:∀ c ∈ cs,c.2.natAbs<=1000000000000) (hn:nn.natAbs<=1000000000000) (hK:kMax vars l<=K) :
  ∃ a,askS K l vars cs nn=some a/\AnsS l cs nn a:=by
 have bz:∀ r ∈ l,En vars r:=fun r h=>(hr r h).1;have uj:∀ c ∈ cs,i64 c.2:=fun c h=>by have:=hs c h; unfold i64; omega
 have a41:i64 nn:=aC
 obtain ⟨a,ok,h1,-,h3⟩:=Yj (F:=QQ.qF) Z5 (fun _ h=>Av0 h) bz hm hp uj a41 (.inl rfl) Ah2 Ah2 (.inl rfl) (.inl rfl) (.inl rfl) hK;unfold askS;rw [h1];cases ok with
 | true=>exact ⟨a,rfl,h3 rfl⟩
 | false =>
  obtain ⟨s1,-⟩:=Adp hl hr;have hI:=Xv hr (Uy Em bz s1);have hfi:=fun j=>Ace (vars:=vars) (cs:=cs) hs j;have zu:Ints l.length (2*vars.length+neqs l+l.length) 1000000000000 1000000000000 ⟨(tabV (Bj WW.qF l vars false)).T,G6 vars cs,(tabV (Bj WW.qF l vars false)).B⟩:=⟨hI.1,fun j _=>hfi j⟩;obtain ⟨a',ok',k1,k2,k3⟩:=Yj (F:=WW.qF) (cs:=cs) (nn:=nn) Em (fun _ h=>⟨h,rfl⟩) bz hm hp uj a41 (.inr s1) (Ah3 aA hI (K0 hl rfl)) (Ah3 aA zu (Agb hl))
   (.inr ⟨rfl,fun cost=>Ag5 Em H0 (Hy aC) (by show qv (iQ 0)=0; rw [iQ_v]; rfl) (fun c hc=>⟨uj c hc,by
     have:=hs c hc;have e:(0:Rat) - ((c.2:Int):Rat)=((-c.2:Int):Rat):=Za3z
     rw [e]; exact Aca aA⟩),fun t cost t1 t2 t3 t4 t5=>by
     have:=X4 (f:=G6 vars cs) Em H0 t2 (fun i hi=>by have:=t1.fit.lt i hi; omega) (fun k hk j hj=>Anj (M:=1000000000000) (Mc:=l.length*1000000000000) (Mf:=1000000000000) aA hI (Agc hl) t1 (fun j _=>hfi j) hk hj) l.length 0 aA t3 t4 t5;rw [Fg,Fg] at this;exact this⟩)
   (.inr fun t t1 t2=>Aqm aA hI (K0 hl rfl) t1 t2)
   (.inr fun u t1 t2=>by
    have:=Ahf (nn:=nn) hl zu t1 t2 hn;unfold Gt;simp only;rw [t2.cost,Oh];show (false || (WW.qF.minus (iQ nn) (at_ q0 u.cost (2*vars.length+neqs l+l.length))).2)=false;rw [this]; rfl) hK
  simp only [k1,C8];exact ⟨a',rfl,k3 (k2 rfl)⟩
end
end
section
open Go Go.Proofs.Tryz
theorem Aqf {v0:ByteArray->Rat} {s:ByteArray} {x:Rat} : ∀ {cs:List (ByteArray × Int)},(∀ c ∈ cs,c.1≠s)->linV (fun n=>if n=s then x else v0 n) cs=linV v0 cs:=fun h=>Nm fun c hc=>if_neg (h c hc)
theorem Ag9 {v0:ByteArray->Rat} {x:Rat} : ∀ {cs:List (ByteArray × Int)} {c:ByteArray × Int},c ∈ cs->(cs.map (·.1)).Pairwise (·≠·)->linV (fun n=>if n=c.1 then x else v0 n) cs=linV v0 cs+((c.2:Int):Rat)*(x - v0 c.1)
 | [],_,h,_=>aR
 | d :: cs,c,h,hp=>by
  rw [Ct,Ie] at hp;rw [linV,linV];rcases Cv.1 h with rfl|h
  ·rw [Aqf fun c' h' e=>hp.1 _ (Ft.2 ⟨c',h',rfl⟩) e.symm,if_pos rfl]; grind
  ·rw [Ag9 h hp.2,if_neg (fun e=>hp.1 _ (Ft.2 ⟨c,h,rfl⟩) e)]; grind
theorem Xy {l:List RowT} {cs:List (ByteArray × Int)} {nn:Int} {v0:ByteArray->Rat} (h0:Sat v0 l) {c:ByteArray × Int} (hc:c ∈ cs) (hne:c.2≠0) (uh:∀ r ∈ l,∀ d ∈ r.1,d.1≠c.1) (hp:(cs.map (·.1)).Pairwise (·≠·)):Lj l cs nn (iQ 0,0):=by
 have hz:((c.2:Int):Rat)≠0:=Gk hne;refine .inr ⟨rfl,rfl,fun V=>⟨fun n=>if n=c.1 then v0 c.1+(V - 1 - ((nn:Int):Rat) - linV v0 cs) / ((c.2:Int):Rat) else v0 n,fun r hr=>?_,?_⟩⟩
 ·rw [Tc (v':=v0) fun d hd=>if_neg (uh r hr d hd)];exact h0 r hr
 ·rw [Ag9 hc hp];have:((c.2:Int):Rat)*(v0 c.1+(V - 1 - ((nn:Int):Rat) - linV v0 cs) / ((c.2:Int):Rat) - v0 c.1)=V - 1 - ((nn:Int):Rat) - linV v0 cs:=aL
  rw [this];grind
def Are (l:List RowT) (cs:List (ByteArray × Int)) (nn:Int) (o:Q × Int):Prop:=((∃ v,Sat v l)->Lj l cs nn o)/\((¬∃ v,Sat v l)->o=(iQ 0,-1))/\gW o.1
theorem Aqa {l:List RowT} {cs:List (ByteArray × Int)} {nn:Int} (hl:l.length<=13) (h0:sysE l=0) (h1:Bz cs nn=0):∃ o,Are l cs nn o/\∀ S tk k,cL prog 15 [Ar l,linA cs nn] S tk k=some (.tup [.agg (ceW o.1),.int o.2],S,tk,k):=by
 obtain ⟨f1,f2,f3,f4⟩:=Gb h0;obtain ⟨n1,n2⟩:=U9 h1;have hr:=Lb (vars:=Bh (Lh l cs nn)) f4 Jx.1;have y7:=(M0 (vars:=Bh (Lh l cs nn)) (r:=(cs,nn,false)) h1 Jx.2).1;obtain ⟨a,e1,a1,a2,a3,a4⟩:=Aps (nn:=nn) hl hr Jx.2 y7.dis (fun c hc=>(n2 c hc).1) n1 (Ce _);refine ⟨leaA a,⟨fun h=>a2 (a1.2 h),fun h=>a3 (by
  cases hf:a.f with
  | true=>exact absurd (a1.1 hf) h
  | false=>rfl),a4⟩,fun S tk k=>?_⟩
 have hcl:=Dz h1;have yc:=Yl h0 h1;have hA:Afq l cs nn a:=Aku fun tk k=>Adm (SL cs nn) tk k cs nn 0 0 rfl y7.n64 y7.c64 hcl l aA aA (Bh (Lh l cs nn)) aA Jx.2 Jx.1 (Zp f4) f1 _ a e1;exact Ku S tk k l (fun r h=>cV) aA cs nn a h0 h1 hA
end
section
open Go Go.Proofs.Tryz
set_option maxHeartbeats 8000000
set_option maxRecDepth 100000
section
variable (S:List Ent) (tk:List Nat) (k:Nat)
theorem Yw (l:List RowT) (hne:l≠[]) (h0:sysE l=0) (cs:List (ByteArray × Int)) (nn:Int) (h1:Bz cs nn=0) (K:Nat) (b:Bool) (t':Tb) (hK:H5 (2*(Bh l).length+l.length+l.length) K (Ds l (Bh l))=some (b,t')) (hf:Gw t'=true) (gd:inV (Bh l) cs=false) :
  cL prog 16 [Ar l,linA cs nn] S tk k=some (.tup [.agg (ceW (iQ 0)),.int 0],S,tk,k):=by
 obtain ⟨f1,f2,f3,f4⟩:=Gb h0;have hcl:=Dz h1;have hC:=fun S tk k=>Ge S tk k l (fun r h=>cV);have hD:=fun S tk k=>Ju S tk k cs nn aA;rw [h0] at hC;rw [h1] at hD;have c0:((0:Int) != 0)=false:=rfl;have fo:=fun S tk k=>Hq S tk k 0 aC;obtain ⟨r,hB,S',tk',k',I,cc,rfl,hT,a8,rn,wl,am⟩:=Pt [⟨0,[Ao cs,.int nn]⟩,⟨1,[.prim (.bool false),.frz [] .nilc,.prim (.bool false),.frz [] .nilc]⟩] [] 2 l hne f1 f2 (Aaa h0) t' b _ hK;simp only [Ch,Co,El,F5] at wl am a8;have hF:=T3 S' tk' k' I t' _ _ cc hT;rw [a8,rn,hf] at hF;have gc:nth S' 0=some ⟨0,[Ao cs,.int nn]⟩:=by rw [(am 0 aA).1]; rfl
 have jn:nth S' 1=some ⟨1,[.prim (.bool false),.frz [] .nilc,.prim (.bool false),.frz [] .nilc]⟩:=by rw [(am 1 aA).1]; rfl
 have hD0:entAt S' 0 0=some [Ao cs,.int nn]:=by unfold entAt; rw [gc]; rfl
 have hD1:entAt S' 1 1=some [.prim (.bool false),.frz [] .nilc,.prim (.bool false),.frz [] .nilc]:=by unfold entAt; rw [jn]; rfl
 obtain ⟨res,l9⟩:∃ res,res=AV.tup [.agg (ceW (iQ 0)),.int 0]:=⟨_,rfl⟩;obtain ⟨vars,hve⟩:∃ vars,vars=Bh l:=⟨_,rfl⟩;rw [<- hve] at hT gd;have yc:vars.length<=24:=by rw [hve]; exact f3
 have aa:=hT.top;rw [a8,rn] at aa;rw [<- l9];have hpe:∀ cs,entAt (put S' 1 ⟨1,cs⟩) 1 1=some cs:=fun cs=>Ae (Aw hD1);simp only [Ar,linA,Ao,Ch,Co,El,F5] at hC hD hB hF gc;refine opP func16 ntmps16 (hp3:=by rw [l9]; rfl) ?_;simp (maxSteps:=10^6)+contextual(disch:=try exact dqd)only[evm,simprocAttr,Cb,Bg,Cc,results16,Ar,linA,Ao,hC,hD,c0,hB,hF,gc,jn,fo,Al,An,Bx,Bt,tkW,puW];refine loop1 (P:=prog) (fun x st=>st.T.length=155/\(x<=cs.length)/\(inV vars (cs.drop x)=false)/\getT st.T 3=.ref 0 0 0/\getT st.T 4=.ref 1 1 0/\getT st.T 6=.ref 2 2 0/\getT st.T 29=.frz (cs.map D2) .unk/\getT st.T 30=.int (cs.length:Nat)/\getT st.T 31=.int (x:Nat)/\st.S=S') (fun x=>cs.length - x) (fun x=>res) (0) ?_ ?_;case refine_2=>exact ⟨rfl,Cl _,gd,rfl,rfl,rfl,rfl,rfl,rfl,rfl⟩
 rintro j ⟨T,S',tk',n'⟩ ⟨hl,hj,hv,e3,e4,e6,e29,e30,e31,eS⟩ IH;subst eS;obtain ⟨g,hg,hT⟩:=Au hl;rw [hg] at e3 e4 e6 e29 e30 e31;subst hT;clear hg hl;by_cases kv:j<cs.length
 ·have d1:decide ((j:Int)<(cs.length:Int))=true:=by simpa using kv
  have ez:Ca.wrap ((j:Int)+1)=((j+1:Nat):Int):=aK
  obtain ⟨c,hx⟩:=Af kv;have hx':nth (cs.map D2) j=some (D2 c):=dL
  simp only [D2] at hx';have hFi:=fun S tk k=>Ys S tk k vars c.1 aA;rw [A1 hx] at hv;cases dF:decide (fndI c.1 0 vars<0) with
  | false =>
   have vn:inV vars (cs.drop (j+1))=false:=by
    have:decide (0<=fndI c.1 0 vars)=true:=by simp at dF ⊢; omega
    unfold inV at hv ⊢;rw [Uo,this,F0] at hv; exact hv
   simp (maxSteps:=10^6)+contextual(disch:=try exact dqd)only[evgm,simprocAttr,Cb,Bg,Cc,results16,e3,e4,e6,e29,e30,e31,d1,ez,hx',hFi,dF,aa];exact IH (j+1) _ aF ⟨rfl,aE,vn,aG,aG,aG,aG,aG,aG,aG⟩
  | true =>
   have b8:∀ x:Ent,S'.length<(S'++[x]).length:=fun x=>by simp
   have a42:∀ x:Ent,entAt (S'++[x]) 1 1=some [.prim (.bool false),.frz [] .nilc,.prim (.bool false),.frz [] .nilc]:=fun x=>Ad hD1;have hpx:∀ cs (x:Ent),entAt (put (S'++[x]) 1 ⟨1,cs⟩) 1 1=some cs:=fun cs x=>Ae (Aw (a42 x));simp (maxSteps:=10^6)+contextual(disch:=try exact dqd)only[evgm,simprocAttr,Cb,Bg,Cc,results16,e3,e4,e6,e29,e30,e31,d1,ez,hx',hFi,dF,aa,fo,a42,hpx,ovW,Al,An,Bx,Bt,tkW,puW];rw [l9];try rfl
 ·rw [Cy aA] at hv;simp [inV] at hv
end
end
section
open Go Go.Proofs.Tryz
set_option maxHeartbeats 8000000
set_option maxRecDepth 100000
theorem Ajw [Globs] {P:Program} [Ext P] {fn:Func} {c:Code} {st:St} {k:List Kont} {tg:Tag (lC c,k)} : KX P fn (.loop c) st k tg=KX P fn c st (.loop c st.S.length :: k) .mk:=Yz
def tabE (x:AV):List AV:=[.frz [] .nilc,.frz [] .nilc,x,.frz [] .unk,.frz [] .nilc,.prim (.int .i64 0)]
section
variable (S:List Ent) (tk:List Nat) (k:Nat)
theorem Xm (it et:Nat):∃ r,cL prog 40 [.ref it et 0,.int 0] S tk k=some r/\r=(.bool true,S,tk,k):=by
 obtain ⟨Φ,hΦ⟩:∃ Φ:Rs->Prop,Φ=fun r=>r=(.bool true,S,tk,k):=⟨_,rfl⟩;rw [show (∃ r,cL prog 40 [.ref it et 0,.int 0] S tk k=some r/\r=(.bool true,S,tk,k))=(∃ r,cL prog 40 [.ref it et 0,.int 0] S tk k=some r/\Φ r) by rw [hΦ]];have d1:decide ((-1:Int)<0)=true:=rfl;refine opM func40 ntmps40 ?_;simp (maxSteps:=10^6)+contextual(disch:=try exact dqd)only[evgm,simprocAttr,Cb,Bg,Cc,results40,Ajw,d1];rw [hΦ]
theorem Rj:∃ r,cL prog 32 [.frz [] .unk] S tk k=some r/\r=(.ref S.length k 0,S++[⟨k,tabE (.sref (S.length+2) (k+2) 0 1 4)⟩]++[⟨k+1,ceW (iQ 0)⟩]++[⟨k+2,ceW (iQ 0)⟩],tk,k+3):=by
 obtain ⟨G,hG⟩:∃ G:Rs,G=(.ref S.length k 0,S++[⟨k,tabE (.sref (S.length+2) (k+2) 0 1 4)⟩]++[⟨k+1,ceW (iQ 0)⟩]++[⟨k+2,ceW (iQ 0)⟩],tk,k+3):=⟨_,rfl⟩;rw [<- hG];obtain ⟨Φ,hΦ⟩:∃ Φ:Rs->Prop,Φ=fun r=>r=G:=⟨_,rfl⟩;rw [show (∃ r,cL prog 32 [.frz [] .unk] S tk k=some r/\r=G)=(∃ r,cL prog 32 [.frz [] .unk] S tk k=some r/\Φ r) by rw [hΦ]];have hn:=fun S tk k=>Pu S tk k [] (by intro r h; simp at h) (by simp);have fo:=fun S tk k=>Hq S tk k 0 aC;have hA:∀ X,entAt (S++[(⟨k,X⟩:Ent)]) S.length k=some X:=fun X=>Az;have hB:∀ X (e:Ent),entAt (S++[(⟨k,X⟩:Ent)]++[e]) S.length k=some X:=fun X e=>Ad Az;have hC:∀ X (e f:Ent),entAt (S++[(⟨k,X⟩:Ent)]++[e]++[f]) S.length k=some X:=fun X e f=>Ad (Ad Az);have b9:∀ X x tk n,entAt X S.length k=some (tabE x)->cL prog 37 [.ref S.length k 0] X tk n=some (.int 0,X,tk,n):=fun X x tk n h=>Hf X tk n S.length k (.frz [] .nilc) (.frz [] .nilc) x (.frz [] .nilc) [] 0 h (by simp) (by simp);have a43:=fun tk n=>b9 (S++[(⟨k,tabE (.frz [] .nilc)⟩:Ent)]) _ tk n (hA _);have x8:=fun e tk n=>b9 (S++[(⟨k,tabE (.frz [] .nilc)⟩:Ent)]++[e]) _ tk n (hB _ e);have a44:=fun e f x tk n=>b9 (S++[(⟨k,tabE x⟩:Ent)]++[e]++[f]) _ tk n (hC _ e f);have se:∀ X tk n,cL prog 40 [.ref S.length k 0,.int 0] X tk n=some (.bool true,X,tk,n):=fun X tk n=>by obtain ⟨r,h,rfl⟩:=Xm X tk n S.length k; exact h
 simp only [tabE] at a43 x8 a44;have gm:Bh []=[]:=rfl;simp only [Ar,Aq,gm,Ei] at hn;have kk:Ca.wrap 0=0:=aO
 have hw1:Ca.wrap 1=1:=aO
 have hp1:∀ (X:Ent) cs cs',put (S++[X]++[(⟨k+1,cs⟩:Ent)]) (S++[X]).length ⟨k+1,cs'⟩=S++[X]++[⟨k+1,cs'⟩]:=fun X cs cs'=>B7 rfl;have hp3:∀ X Y (e f:Ent),put (S++[(⟨k,X⟩:Ent)]++[e]++[f]) S.length ⟨k,Y⟩=S++[⟨k,Y⟩]++[e]++[f]:=fun X Y e f=>by rw [B4 (by simp),B4 (by simp),B7 rfl]
 have cd:apT prog 54=some 4:=aI
 have ew:∀ t,t=54->∀ c X n,apO prog t (.frz [] .nilc) (.frz [ceW (iQ 0)] c) X n=some (.sref X.length n 0 1 4,X++[⟨n,ceW (iQ 0)⟩],n+1):=fun t ht c X n=>by rw [ht]; exact Ad8 cd (Al _) (An _)
 have ew:=ew _ rfl;refine opM func32 ntmps32 ?_;simp (maxSteps:=10^6)+contextual(disch:=try exact dqd)only[evgm,simprocAttr,Cb,Bg,Cc,results32,Ajw,hn,fo,hA,hB,hC,a43,x8,a44,se,gO_refl,R4,kk,hw1,hp1,hp3,ew,ovW,WW.ovQ2,xfs,Al,An,Bx,Bt,tkW,puW];rw [hΦ,hG];simp [tabE,Sr]
theorem Ur (it et ic ec n:Nat) (a b v f:AV) (m:Int) (cost:List Q) (ht:entAt S it et=some [a,b,.sref ic ec 0 cost.length 4,v,f,.prim (.int .i64 m)]) (fm:entAt S ic ec=some (flat ceW cost)) (hp:0<cost.length) (hW:cost.length<=1000000):cL prog 33 [.ref it et 0] S tk k=some (.bool (sgn (at_ q0 cost (cost.length - 1)) == 0),S,tk,k):=by
 obtain ⟨z,hz⟩:=Af (show cost.length - 1<cost.length by omega);have jw:=Ap (ce:=ceW) Al hz;have hs:=fun S tk k=>M7 S tk k z;have ig:Ca.wrap ((cost.length:Int) - 1)=((cost.length - 1:Nat):Int):=aS
 have ku:cost.length - 1<cost.length:=aA
 refine opS func33 ntmps33 ?_;simp (maxSteps:=10^6)+contextual(disch:=try exact dqd)only[evs1,simprocAttr,Cb,Bg,Cc,results33,ht,fm,jw,ig,ku,hs,C9,Al,An,Bx,Bt,tkW,puW];rw [Av hz]
theorem Yu:cL prog 14 [Ar []] S tk k=some (.tup [.bool true,.int 0],S,tk,k):=by
 have hC:=fun S tk k=>Ge S tk k [] (fun r h=>aN);have h0:sysE []=0:=aO
 rw [h0] at hC;have c1:((0:Int) != 0)=false:=rfl;obtain ⟨r,hB,rfl⟩:=Rj [] [] 0;have hF:=fun tk k=>Ur ([]++[(⟨0,tabE (.sref 2 2 0 1 4)⟩:Ent)]++[⟨0+1,ceW (iQ 0)⟩]++[⟨0+2,ceW (iQ 0)⟩]) tk k 0 0 2 2 0 _ _ _ _ _ [iQ 0] rfl rfl (by simp) (by simp);have hs:(sgn (at_ q0 [iQ 0] ([iQ 0].length - 1)) == 0)=true:=aO
 rw [hs] at hF;simp only [Ar,Ei,Cq,Cn,Co,El] at hC hB hF;refine opP func14 ntmps14 (hp3:=rfl) ?_;simp (maxSteps:=10^6)+contextual(disch:=try exact dqd)only[evm,simprocAttr,Cb,Bg,Cc,results14,Ar,Ei,hC,hB,hF,c1]
end
end
section
open Go Go.Proofs.Tryz
set_option maxHeartbeats 8000000
set_option maxRecDepth 100000
section
variable (S:List Ent) (tk:List Nat) (k:Nat)
theorem Aif (it et:Nat) (x:AV) (h:entAt S it et=some (tabE x)):∃ r,cL prog 36 [.ref it et 0] S tk k=some r/\r=(.tup [],S,tk,k):=by
 obtain ⟨G,hG⟩:∃ G:Rs,G=(.tup [],S,tk,k):=⟨_,rfl⟩;rw [<- hG];obtain ⟨Φ,hΦ⟩:∃ Φ:Rs->Prop,Φ=fun r=>r=G:=⟨_,rfl⟩;rw [show (∃ r,cL prog 36 [.ref it et 0] S tk k=some r/\r=G)=(∃ r,cL prog 36 [.ref it et 0] S tk k=some r/\Φ r) by rw [hΦ]];simp only [tabE] at h;refine opM func36 ntmps36 ?_;simp (maxSteps:=10^6)+contextual(disch:=try exact dqd)only[evgm,simprocAttr,Cb,Bg,Cc,results36,Ajw,h];rw [hΦ,hG]
theorem Ad1 (cs:List (ByteArray × Int)) (hne:cs≠[]) (nn:Int) (h1:Bz cs nn=0):cL prog 16 [Ar [],linA cs nn] S tk k=some (.tup [.agg (ceW (iQ 0)),.int 0],S,tk,k):=by
 have hcl:=Dz h1;have y8:0<cs.length:=F8.2 hne;obtain ⟨c,hc⟩:=Af y8;have hC:=fun S tk k=>Ge S tk k [] (fun r h=>aN);have hD:=fun S tk k=>Ju S tk k cs nn aA;rw [show sysE []=0 by decide] at hC;rw [h1] at hD;have c0:((0:Int) != 0)=false:=rfl;have fo:=fun S tk k=>Hq S tk k 0 aC;obtain ⟨r,hB,rfl⟩:=Rj [⟨0,[Ao cs,.int nn]⟩,⟨1,[.prim (.bool false),.frz [] .nilc,.prim (.bool false),.frz [] .nilc]⟩] [] 2;have hF:=fun tk k=>Ur ([⟨0,[Ao cs,.int nn]⟩,⟨1,[.prim (.bool false),.frz [] .nilc,.prim (.bool false),.frz [] .nilc]⟩]++[(⟨2,tabE (.sref 4 4 0 1 4)⟩:Ent)]++[⟨2+1,ceW (iQ 0)⟩]++[⟨2+2,ceW (iQ 0)⟩]) tk k 2 2 4 4 0 _ _ _ _ _ [iQ 0] rfl rfl (by simp) (by simp);have hs:(sgn (at_ q0 [iQ 0] ([iQ 0].length - 1)) == 0)=true:=aO
 rw [hs] at hF;have hFi:=fun S tk k=>Ys S tk k [] c.1 (by simp);simp only [Ei,fndI] at hFi;have hd:decide ((-1:Int)<0)=true:=rfl;have hpos:decide ((0:Int)<((cs.length:Nat):Int))=true:=aD
 have hcc:nth (cs.map D2) 0=some [.prim (.string c.1),.prim (.int .i64 c.2)]:=by rw [Dx,hc]; rfl
 simp only [Ar,linA,Ao,tabE,Ei,Cq,Cn,Co,Ch,El,F5] at hC hD hB hF;refine opP func16 ntmps16 (hp3:=rfl) ?_;simp (maxSteps:=10^6)+contextual(disch:=try exact dqd)only[evm,simprocAttr,Cb,Bg,Cc,results16,Ajw,Ar,linA,Ao,Ei,hC,hD,c0,hB,hF,fo,hpos,hcc,hFi,hd,ovW,Al,An,Bx,Bt,tkW,puW];try rfl
theorem Ad0 (nn:Int) (h1:Bz [] nn=0):cL prog 16 [Ar [],linA [] nn] S tk k=some (.tup [.agg (ceW (WW.qF.minus (iQ nn) (iQ 0)).1),.int 1],S,tk,k):=by
 have hC:=fun S tk k=>Ge S tk k [] (fun r h=>aN);have hD:=fun S tk k=>Ju S tk k [] nn (by simp);rw [show sysE []=0 by decide] at hC;rw [h1] at hD;have hsm:=(M0 (vars:=[]) (r:=(([]:List (ByteArray × Int)),nn,false)) h1 (fun c hc=>by simp at hc)).2;have a6g : -1000000000000<=nn/\nn<=1000000000000:=Za32
 have c0:((0:Int) != 0)=false:=rfl;have fo:=fun S tk k=>Hq S tk k 0 aC;have hiN:=fun S tk k=>Hq S tk k nn aC;have hDs:=fun S tk k=>Yy S tk k (iQ nn) (iQ 0) (N2 aC) (N2 aC);obtain ⟨y,hy⟩:∃ y,y=(WW.qF.minus (iQ nn) (iQ 0)).1:=⟨_,rfl⟩;rw [<- hy] at hDs ⊢;obtain ⟨Z,hZ⟩:∃ Z:List AV,Z=ceW (iQ 0):=⟨_,rfl⟩;obtain ⟨r,hB,rfl⟩:=Rj [⟨0,[Ao [],.int nn]⟩,⟨1,[.prim (.bool false),.frz [] .nilc,.prim (.bool false),.frz [] .nilc]⟩] [] 2;have hF:=fun tk k=>Ur ([⟨0,[Ao [],.int nn]⟩,⟨1,[.prim (.bool false),.frz [] .nilc,.prim (.bool false),.frz [] .nilc]⟩]++[(⟨2,tabE (.sref 4 4 0 1 4)⟩:Ent)]++[⟨2+1,ceW (iQ 0)⟩]++[⟨2+2,ceW (iQ 0)⟩]) tk k 2 2 4 4 0 _ _ _ _ _ [iQ 0] rfl rfl (by simp) (by simp);have hs:(sgn (at_ q0 [iQ 0] ([iQ 0].length - 1)) == 0)=true:=aO
 rw [hs] at hF;have hCl:∀ tk k,cL prog 36 [.ref 2 2 0] ([⟨0,[Ao [],.int nn]⟩,⟨1,[.prim (.bool false),.frz [] .nilc,.prim (.bool false),.frz [] .nilc]⟩]++[(⟨2,tabE (.sref 4 4 0 1 4)⟩:Ent)]++[⟨2+1,ceW (iQ 0)⟩]++[⟨2+2,ceW (iQ 0)⟩]) tk k=some (.tup [],[⟨0,[Ao [],.int nn]⟩,⟨1,[.prim (.bool false),.frz [] .nilc,.prim (.bool false),.frz [] .nilc]⟩]++[(⟨2,tabE (.sref 4 4 0 1 4)⟩:Ent)]++[⟨2+1,ceW (iQ 0)⟩]++[⟨2+2,ceW (iQ 0)⟩],tk,k):=fun tk k=>by
  obtain ⟨r,h,rfl⟩:=Aif ([⟨0,[Ao [],.int nn]⟩,⟨1,[.prim (.bool false),.frz [] .nilc,.prim (.bool false),.frz [] .nilc]⟩]++[(⟨2,tabE (.sref 4 4 0 1 4)⟩:Ent)]++[⟨2+1,ceW (iQ 0)⟩]++[⟨2+2,ceW (iQ 0)⟩]) tk k 2 2 _ rfl;exact h
 have se:∀ X tk n,cL prog 40 [.ref 2 2 0,.int 0] X tk n=some (.bool true,X,tk,n):=fun X tk n=>by obtain ⟨r,h,rfl⟩:=Xm X tk n 2 2; exact h
 have b9:∀ a b z w x tk n,cL prog 37 [.ref 2 2 0] [a,b,⟨2,tabE x⟩,z,w] tk n=some (.int 0,[a,b,⟨2,tabE x⟩,z,w],tk,n):=fun a b z w x tk n=>Hf [a,b,⟨2,tabE x⟩,z,w] tk n 2 2 (.frz [] .nilc) (.frz [] .nilc) x (.frz [] .nilc) [] 0 rfl (by simp) (by simp);have x8:∀ a b z w u x tk n,cL prog 37 [.ref 2 2 0] [a,b,⟨2,tabE x⟩,z,w,u] tk n=some (.int 0,[a,b,⟨2,tabE x⟩,z,w,u],tk,n):=fun a b z w u x tk n=>Hf [a,b,⟨2,tabE x⟩,z,w,u] tk n 2 2 (.frz [] .nilc) (.frz [] .nilc) x (.frz [] .nilc) [] 0 rfl (by simp) (by simp);have kk:Ca.wrap 0=0:=aO
 have hw1:Ca.wrap 1=1:=aO
 have cd:apT prog 54=some 4:=aI
 have ew:∀ t,t=54->∀ c X n,apO prog t (.frz [] .nilc) (.frz [ceW (iQ 0)] c) X n=some (.sref X.length n 0 1 4,X++[⟨n,ceW (iQ 0)⟩],n+1):=fun t ht c X n=>by rw [ht]; exact Ad8 cd (Al _) (An _)
 have ew:=ew _ rfl;have htn:takeN 4 (I7 0 (ceW (iQ 0)))=some (ceW (iQ 0)):=rfl;have a6u:takeN 4 (ceW (iQ 0))=some (ceW (iQ 0)):=rfl;simp only [Ar,linA,Ao,tabE,Ei,Cq,Cn,Co,Ch,El,F5] at hC hD hB hF hCl b9 x8;refine opP func16 ntmps16 (hp3:=rfl) ?_;simp (maxSteps:=10^6)+contextual(disch:=try exact dqd)only[evm,simprocAttr,Cb,Bg,Cc,results16,Ajw,Ar,linA,Ao,Ei,Cn,Cq,Fg,hC,hD,c0,hB,hF,fo,hiN,hDs,hCl,se,b9,x8,gO_refl,kk,hw1,ew,htn,a6u,ovW,xfs,Al,An,Bx,Bt,tkW,puW];rfl
end
end
section
open Go Go.Proofs.Tryz
theorem Aes {s:ByteArray} : ∀ {l:List ByteArray} {k:Nat},0<=fndI s k l↔s ∈ l
 | [],k=>by simp [fndI]
 | x :: l,k=>by
  rw [fndI,Cv,N3];by_cases h:x=s
  ·subst h; simp
  ·have h':¬ s=x:=fun e=>h e.symm;rw [if_neg aM,Aes];simp [h']
theorem Al3 {vars:List ByteArray} {cs:List (ByteArray × Int)} : inV vars cs=true↔∀ c ∈ cs,c.1 ∈ vars:=by
 unfold inV;rw [Fb];constructor
 ·intro h c hc;have:=h c hc;rw [decide_eq_true_eq] at this;exact Aes.1 this
 ·intro h c hc;rw [decide_eq_true_eq];exact Aes.2 (h c hc)
theorem Avl {cs:List (ByteArray × Int)} (h:IncC cs):(cs.map (·.1)).Pairwise (·≠·):=List.Pairwise.imp (fun {a b} hab e=>by subst e; exact jH _ hab) h
theorem Aa4 {l:List RowT} {cs:List (ByteArray × Int)} {nn:Int} (hl:l.length<=13) (h0:sysE l=0) (h1:Bz cs nn=0):∃ o,Are l cs nn o/\∀ S tk k,cL prog 16 [Ar l,linA cs nn] S tk k=some (.tup [.agg (ceW o.1),.int o.2],S,tk,k):=by
 obtain ⟨f1,f2,f3,f4⟩:=Gb h0;obtain ⟨n1,n2⟩:=U9 h1;have hpw:=Avl (Abq h1);have gz:gW (iQ 0):=Hy aC;by_cases hne:l=[]
 ·subst hne;have a35:∀ v,Sat v []:=fun v r h=>aR
  cases cs with
  | nil =>
   refine ⟨((WW.qF.minus (iQ nn) (iQ 0)).1,1),⟨fun _=>.inl ⟨rfl,?_⟩,fun h=>absurd ⟨fun _=>0,a35 _⟩ h,by rw [Zs aC]; exact iQ_g aC⟩,fun S tk k=>Ad0 S tk k nn h1⟩;rw [Zs aC];simp only [iQ_v,linV,Int.sub_zero];exact ⟨fun v _=>aL,fun _=>0,a35 _,aL⟩
  | cons c cs =>
   exact ⟨(iQ 0,0),⟨fun ⟨v,hv⟩=>Xy hv (Cs ..) (n2 c (Cs ..)).2 (fun r h=>aR) hpw,fun h=>absurd ⟨fun _=>0,a35 _⟩ h,gz⟩,fun S tk k=>Ad1 S tk k (c :: cs) (by simp) nn h1⟩
 ·have hr:=Lb (vars:=Bh l) f4 Jr;obtain ⟨b,t',e1,e2,e3⟩:=Ab6 (W1 l) hl hr (Ce _);cases hf:Gw t' with
  | false =>
   rw [hf] at e3;have uh:¬∃ v,Sat v l:=fun h=>by have:=e3.2 h; cases this
   exact ⟨(iQ 0,-1),⟨fun h=>absurd h uh,fun _=>rfl,gz⟩,fun S tk k=>Aa2 S tk k l hne h0 cs nn h1 _ b t' e1 hf⟩
  | true =>
   obtain ⟨v0,gm⟩:=e3.1 hf;cases gd:inV (Bh l) cs with
   | false =>
    refine ⟨(iQ 0,0),⟨fun _=>?_,fun h=>absurd ⟨v0,gm⟩ h,gz⟩,fun S tk k=>Yw S tk k l hne h0 cs nn h1 _ b t' e1 hf gd⟩;have gg:∃ c ∈ cs,c.1 ∉ Bh l:=by
     apply O0;intro hn;have:inV (Bh l) cs=true:=Al3.2 fun c hc=>O0 fun h=>hn ⟨c,hc,h⟩;rw [gd] at this; cases this
    obtain ⟨c,hc,ye⟩:=gg;exact Xy gm hc (n2 c hc).2 (fun r hr d hd e=>ye (by rw [<- e]; exact Jr r hr d hd)) hpw
   | true =>
    have hm:=Al3.1 gd;have y7:=(M0 (vars:=Bh l) (r:=(cs,nn,false)) h1 hm).1;obtain ⟨g1,b2,t2,g2,g3,g4⟩:=Aiz (nn:=nn) (W1 l) hl hr hm y7.dis (fun c hc=>(n2 c hc).1) n1 (Ce _) e1 hf (Ce _);exact ⟨Lx nn b2 t2,⟨fun _=>g3,fun h=>absurd ⟨v0,gm⟩ h,g4⟩,fun S tk k=>Aa1 S tk k l hne h0 cs nn h1 _ b t' e1 hf gd g1 _ b2 t2 g2⟩
theorem Ap7 {a b:Q} (ha:gW a) (hb:gW b) (h:qv a=qv b):a=b:=by
 have ga:H1 a.1 a.2:=ha;have gb:H1 b.1 b.2:=hb;have pa:=ga.pos;have pb:=gb.pos;have h2:=Gk (show a.2≠0 by omega);have h3:=Gk (show b.2≠0 by omega);have e:b.1*a.2=a.1*b.2:=by
  have h4:((b.1*a.2:Int):Rat)=((a.1*b.2:Int):Rat):=by
   rw [C7,C7];unfold qv at h;grind
  exact iV.mp h4
 obtain ⟨-,k1,k2⟩:=Ar6 (show b.2≠0 by omega) ga e;obtain ⟨-,k3,k4⟩:=Ar6 (show b.2≠0 by omega) gb rfl;exact Prod.ext (k1.symm.trans k3) (k2.symm.trans k4)
theorem Amh {l:List RowT} {cs:List (ByteArray × Int)} {nn:Int} (hl:l.length<=13) (c8:∀ r ∈ l,r.1.length<=1048576) (hcl:cs.length<=1048576):∃ o:Q × Int,gW o.1/\(∀ S tk k,cL prog 15 [Ar l,linA cs nn] S tk k=some (.tup [.agg (ceW o.1),.int o.2],S,tk,k))/\∀ S tk k,cL prog 16 [Ar l,linA cs nn] S tk k=some (.tup [.agg (ceW o.1),.int o.2],S,tk,k):=by
 by_cases h0:sysE l=0/\Bz cs nn=0
 ·obtain ⟨o,⟨a1,a2,a3⟩,e1⟩:=Aqa hl h0.1 h0.2;obtain ⟨o',⟨b1,b2,b3⟩,e2⟩:=Aa4 hl h0.1 h0.2;have:o=o':=by
   by_cases hs:∃ v,Sat v l
   ·obtain ⟨k1,k2⟩:=Amg (a1 hs) (b1 hs);exact Prod.ext (Ap7 a3 b3 k2) k1
   ·rw [a2 hs,b2 hs]
  subst this;exact ⟨o,a3,e1,e2⟩
 ·have h1:sysE l≠0\/Bz cs nn≠0:=by
   by_cases h:sysE l=0
   ·exact .inr fun h2=>h0 ⟨h,h2⟩
   ·exact .inl h
  exact ⟨(iQ 0,-1),Hy aC,fun S tk k=>R8 S tk k l c8 cs nn hcl h1,fun S tk k=>Yv S tk k l c8 cs nn hcl h1⟩
end
section
open Go
end
section
open Go Go.Proofs.Tryz
section
variable (S:List Ent) (tk:List Nat) (k:Nat)
theorem Ty (l:List RowT) (c8:∀ r ∈ l,r.1.length<=1048576) (hi:∀ r ∈ l,i64 r.2.1/\∀ c ∈ r.1,i64 c.2) (K:Nat) (a:Ans) (hS:sysE l=0->askN K l (Bh l)=some a/\a.least=none) :
  cL prog 13 [Ar l] S tk k=some (.tup [.bool (if sysE l=0 then a.f else false),.int (sysE l)],S,tk,k):=by
 have hC:=fun S tk k=>Ew S tk k l c8;by_cases h0:sysE l=0
 ·obtain ⟨h1,h2,h3,-⟩:=Gb h0;have hV:=fun S tk k=>Dr S tk k l h1 h2;obtain ⟨b8,bp⟩:=hS h0;have hA:=fun S tk k=>Adk S tk k l aA aA (Bh l) aA Jr hi h1 K a b8 bp;exact Yax
 ·exact Ya0f
end
def M3 (l:List RowT):Bool:=(l.all fun r=>decide (r.1.length<=30)) && (decide (l.length<=12) && decide ((Aok l).length<=6))
section
variable (S:List Ent) (tk:List Nat) (k:Nat)
theorem Ajy (l:List RowT) (hl:l.length<=9223372036854775807):cL prog 12 [Ar l] S tk k=some (.bool (M3 l),S,tk,k):=by
 refine opP func12 ntmps12 (hp3:=rfl) ?_;simp (maxSteps:=10^6)+contextual(disch:=try exact dqd)only[ev1,simprocAttr,Cb,Bg,Cc,results12,Ar];refine loop1 (P:=prog) (fun x st=>st.T.length=26/\(x<=l.length)/\((l.take x).all (fun r=>decide (r.1.length<=30))=true)/\getT st.T 0=.frz (l.map rowC) .unk/\getT st.T 5=.frz (l.map rowC) .unk/\getT st.T 6=.int (l.length:Nat)/\getT st.T 7=.int (x:Nat)/\st.S=[]) (fun x=>l.length - x) (fun x=>.bool (M3 l)) (0) ?_ ?_;case refine_2=>exact ⟨rfl,Cl _,rfl,rfl,rfl,rfl,rfl,rfl⟩
 rintro i ⟨T,S',tk',n'⟩ ⟨hl,hi,hs,e0,e5,e6,e7,eS⟩ IH;subst eS;obtain ⟨g,hg,hT⟩:=Au hl;rw [hg] at e0 e5 e6 e7;subst hT;clear hg hl;by_cases la:i<l.length
 ·have ez:Ca.wrap ((i:Int)+1)=((i+1:Nat):Int):=aK
  have d1:decide ((i:Int)<(l.length:Int))=true:=bS
  obtain ⟨r,hx⟩:=Af la;have hx':=Lr hx;simp only [rowC,Ao] at hx';by_cases hr:r.1.length<=30
  ·have fh:(l.take (i+1)).all (fun r=>decide (r.1.length<=30))=true:=by
    rw [Gs hx,List.all_append,hs]; simp [hr]
   have d2:decide (((r.1.length:Nat):Int) > 30)=false:=aD
   simp (maxSteps:=10^6)+contextual(disch:=try exact dqd)only[ev1,simprocAttr,Cb,Bg,Cc,results12,e0,e5,e6,e7,d1,d2,hx',ez];exact IH (i+1) _ aF ⟨rfl,aE,fh,bU,bU,bU,bU,bU⟩
  ·have d2:decide (((r.1.length:Nat):Int) > 30)=true:=aD
   have hf:M3 l=false:=by
    have ha:¬ (l.all fun r=>decide (r.1.length<=30))=true:=fun h=>hr (by
     have:=Fb.1 h r eU;simpa using this)
    unfold M3;rw [Bool.not_eq_true] at ha;rw [ha]; rfl
   rw [hf];simp (maxSteps:=10^6)+contextual(disch:=try exact dqd)only[ev1,simprocAttr,Cb,Bg,Cc,results12,e0,e5,e6,e7,d1,d2,hx']
 ·have d1:decide ((i:Int)<(l.length:Int))=false:=bS
  have m6:i=l.length:=aA
  subst m6;rw [Fm] at hs;have c8:∀ r ∈ l,r.1.length<=1048576:=fun r h=>by have:=Fb.1 hs r h; simp at this; omega
  by_cases h1:l.length<=12
  ·have d2:decide (((l.length:Nat):Int)<=12)=true:=aD
   have hV:=fun S tk k=>Aj9 S tk k l c8;have hf:M3 l=decide (((Aok l).length:Int)<=6):=by
    unfold M3;rw [hs];have:decide (l.length<=12)=true:=aU
    rw [this];simp only [F0];apply decide_eq_decide.2;omega
   rw [hf];simp only [Ar,Aq] at hV;simp (maxSteps:=10^6)+contextual(disch:=try exact dqd)only[ev1,simprocAttr,Cb,Bg,Cc,results12,e0,e5,e6,e7,d1,d2,hV]
  ·have d2:decide (((l.length:Nat):Int)<=12)=false:=aD
   have hf:M3 l=false:=by
    unfold M3;have:decide (l.length<=12)=false:=aU
    rw [this]; simp
   rw [hf];simp (maxSteps:=10^6)+contextual(disch:=try exact dqd)only[ev1,simprocAttr,Cb,Bg,Cc,results12,e0,e5,e6,e7,d1,d2]
end
theorem Aq0 {l:List RowT} (h:M3 l=true):(∀ r ∈ l,r.1.length<=30)/\l.length<=12/\(Aok l).length<=6:=by
 simp only [M3,Ci,decide_eq_true_eq,Fb] at h;exact ⟨h.1,h.2.1,h.2.2⟩
theorem Ate {l:List RowT} (hl:l.length<=13) (h0:sysE l=0):∃ b:Bool,(b=true↔∃ v,Sat v l)/\∀ S tk k,cL prog 13 [Ar l] S tk k=some (.tup [.bool b,.int 0],S,tk,k):=by
 obtain ⟨f1,f2,f3,f4⟩:=Gb h0;have hr:=Lb (vars:=Bh l) f4 Jr;obtain ⟨a,h1,h2,h3⟩:=Apr hl hr (Ce _);refine ⟨a.f,Apn (fun r h=>(hr r h).1) h3,fun S tk k=>?_⟩;have:=Ty S tk k l (fun r h=>cV) (Zp f4) _ a (fun _=>⟨h1,h2⟩);rw [h0,if_pos rfl] at this;exact this
theorem Ap4 {l:List RowT} (hl:l.length<=13) (c8:∀ r ∈ l,r.1.length<=1048576):∃ (b:Bool) (e:Int),(∀ S tk k,cL prog 13 [Ar l] S tk k=some (.tup [.bool b,.int e],S,tk,k))/\∀ S tk k,cL prog 14 [Ar l] S tk k=some (.tup [.bool b,.int e],S,tk,k):=by
 by_cases h0:sysE l=0
 ·obtain ⟨b,i1,e1⟩:=Ate hl h0;by_cases hne:l=[]
  ·subst hne;have:b=true:=i1.2 ⟨fun _=>0,fun r h=>aR⟩;subst this;exact ⟨true,0,e1,fun S tk k=>Yu S tk k⟩
  ·obtain ⟨b',i2,e2⟩:=W5 hl hne h0;have:b'=b:=S9.2 (i2.trans i1.symm);subst this;exact ⟨b',0,e1,e2⟩
 ·refine ⟨false,sysE l,fun S tk k=>?_,fun S tk k=>Yt S tk k l c8 h0⟩;have:=Hx S tk k l c8 ⟨false,[],[],none⟩ fun h=>absurd h h0;rw [if_neg h0] at this;exact this
end
section
open Go Go.Proofs.Tryz
set_option maxHeartbeats 4000000
set_option maxRecDepth 100000
section
variable (S:List Ent) (tk:List Nat) (k:Nat)
theorem Pp (l:List RowT) (hl:l.length<=9223372036854775807) (cs:List (ByteArray × Int)) (nn:Int) (j1:cs.length<=9223372036854775807):cL prog 4 [Ar l,linA cs nn] S tk k=some (.bool true,S,tk,k):=by
 have hA:=fun S tk k=>Ajx S tk k;have hSm:=fun S tk k=>Ajy S tk k l hl;by_cases hs:M3 l=true;case neg =>
  rw [Bool.not_eq_true] at hs
  rw [hs] at hSm
  simp only [Ar] at hSm
  refine opP func4 ntmps4 (hp3:=rfl) ?_
  simp (maxSteps:=10^6)+contextual(disch:=try exact dqd)only[ev1,simprocAttr,Cb,Bg,Cc,results4,Ar,linA,Ao,hSm,hA]
 rw [hs] at hSm;obtain ⟨s1,s2,s3⟩:=Aq0 hs;simp only [Ar] at hSm;by_cases h30:cs.length<=30;case neg =>
  have c1:decide (((cs.length:Nat):Int) > 30)=true:=aD
  refine opP func4 ntmps4 (hp3:=rfl) ?_
  simp (maxSteps:=10^6)+contextual(disch:=try exact dqd)only[ev1,simprocAttr,Cb,Bg,Cc,results4,Ar,linA,Ao,hSm,c1,hA]
 have c1:decide (((cs.length:Nat):Int) > 30)=false:=aD
 obtain ⟨b,e,f1,f2⟩:=Ap4 (l:=l) aA fun r h=>by have:=s1 r h; omega
 obtain ⟨o,g,q1,q2⟩:=Amh (l:=l) (nn:=nn) (cs:=cs) aA (fun r h=>by have:=s1 r h; omega) aA;have g':H1 o.1.1 o.1.2:=g;have v1:=g'.ln;have v2:=g'.ld;have hV:=fun S tk k=>Aax S tk k (decide (o.1.1<0)) (dig o.1.1.natAbs) (decide (o.1.2<0)) (dig o.1.2.natAbs) aA aA;have hC:=fun S tk k=>Ady S tk k (decide (o.1.1<0)) (dig o.1.1.natAbs) (decide (o.1.2<0)) (dig o.1.2.natAbs) (decide (o.1.1<0)) (dig o.1.1.natAbs) (decide (o.1.2<0)) (dig o.1.2.natAbs) aA aA aA aA;rw [g'.valid] at hV;rw [Zd rfl] at hC;have zz:∀ b:Bool,(b == b)=true:=fun b=>by simp
 have zi:∀ b:Int,(b == b)=true:=fun b=>by simp
 simp only [Ar,linA,Ao,ceW,digA] at f1 f2 q1 q2;simp only [ratA,digA] at hV hC;refine opP func4 ntmps4 (hp3:=rfl) ?_;simp (maxSteps:=10^6)+contextual(disch:=try exact dqd)only[ev1,simprocAttr,Cb,Bg,Cc,results4,Ar,linA,Ao,hSm,c1,f1,f2,q1,q2,hV,hC,zz,zi,hA]
end
end
end Go.Proofs.YtcjffhadclngmaaGreat
