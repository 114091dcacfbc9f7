/- Part 21. -/
import Derived.Test.YtcandeobhlfkbaaGreatZM20
namespace Go.Proofs.YtcandeobhlfkbaaGreat
section
open Go Tryz
section
variable {S S':List Ent} {I:TI} {R:List (List Q)} {B:List Nat} {F:List Bool} {vars:List ByteArray} {m W:Nat} {cc:Cap} {x:AV}
theorem PTab.frame (h:PTab S I R B F vars m W cc x) {L:Nat} (h1:I.it<L/\I.ir<L/\I.ib<L/\∀ p ∈ I.ids,p.1<L) (hl:L<=S'.length) (hS:∀ j,j<L->nth S' j=nth S j):PTab S' I R B F vars m W cc x :=
 ⟨by rw [Ae (hS _ h1.1)]; exact h.top,h.nids,h.nb,fun e=>by rw [Ae (hS _ h1.2.1)]; exact h.rowsE e,fun e=>by rw [Ae (hS _ h1.2.2.1)]; exact h.basisE e,fun i p r hp hr=>by rw [Ae (hS _ (h1.2.2.2 p (Ak hp)))]; exact h.rowE i p r hp hr,h.rowW,h.okr,h.tr,h.tb,h.rb,h.row,⟨by omega,fun p hp=>by have:=h1.2.2.2 p hp; omega⟩,h.rows⟩
theorem PTab.setX (h:PTab S I R B F vars m W cc x) (x':AV):PTab (put S I.it ⟨I.et,[shd I.ir I.er R.length,shd I.ib I.eb B.length,x',.frz (vars.map strC) .unk,.frz (F.map Hm) cc,.prim (.int .i64 (m:Int))]⟩) I R B F vars m W cc x':=by
 have key:∀ j,j≠I.it->nth (put S I.it ⟨I.et,[shd I.ir I.er R.length,shd I.ib I.eb B.length,x',.frz (vars.map strC) .unk,.frz (F.map Hm) cc,.prim (.int .i64 (m:Int))]⟩) j=nth S j:=fun j hj=>Ah (Ne.symm hj)
 exact ⟨Am h.lt.1,h.nids,h.nb,fun e=>by rw [Ae (key _ h.tr.symm)]; exact h.rowsE e,fun e=>by rw [Ae (key _ h.tb.symm)]; exact h.basisE e,fun i p r hp hr=>by rw [Ae (key _ (h.row p (Ak hp)).1)]; exact h.rowE i p r hp hr,h.rowW,h.okr,h.tr,h.tb,h.rb,h.row,⟨by rw [Au]; exact h.lt.1,fun p hp=>by rw [Au]; exact h.lt.2 p hp⟩,h.rows⟩
end
theorem V2 {id e k:Nat} (h:k≠0):shd id e k=.sref id e 0 k 1:=by cases k with|zero=>exact absurd rfl h|succ k=>rfl
theorem Am8 {P:Program} {t:TypeId} {S:List Ent} {id e n:Nat} {l zs:List Q} {c:Cap} (h:apT P t=some 4) (hz:zs≠[]) (h0:l=[]->S.length=id) (h1:l≠[]->entAt S id e=some (flat ceW l)) (hb:l.length+zs.length<=1048576):apO P t (ohd id e l.length) (.frz (zs.map ceW) c) S n=some (ohd id n (l.length+zs.length),En S id n l (flat ceW (l++zs)),n+1):=by
 have hr:Bl 4 (zs.map ceW)=true:=Du (f:=ceW) Aq zs
 have hl:((zs.map ceW).all fun e=>e.all leafOk)=true:=by simp [List.all_eq_true,A3]
 have hz0:0<zs.length:=List.length_pos_iff.2 hz
 unfold En
 by_cases hn:l=[]
 ·rw [if_pos hn]
  subst hn
  have:=ap4n (S:=S) (n:=n) (c:=c) h hr hl (by simpa using hz0) (by simpa using hb)
  rw [List.length_map] at this
  simp only [List.length_nil,Nat.zero_add,List.nil_append]
  rw [<- h0 rfl,show ohd S.length n zs.length=.sref S.length n 0 zs.length 4 from Hh (by omega)]
  exact this
 ·rw [if_neg hn]
  have c8:0<l.length:=List.length_pos_iff.2 hn
  have:=ap4m (S:=S) (n:=n) (c:=c) h hr hl (by simpa using hz0) (h1 hn) (Ql Aq) c8 (by simpa using hb)
  rw [List.length_map] at this
  rw [Hh (by omega),Hh (by omega),Abt]
  exact this
theorem Agf {k:Nat} : ∀ {R:List (List Q)} {c:Q},okW c->(∀ r ∈ R,okL wF r/\k<r.length)->okW (colR k R c)
 | [],_,h,_=>h
 | r :: R,c,h,hr=>by
  obtain ⟨h1,h2⟩:=hr r (by simp)
  obtain ⟨x,hx⟩:=Ab h2
  unfold colR
  rw [Dd hx]
  exact Agf (Ee.minus _ _ h (h1 x (Ak hx))) fun r jd=>hr r (by simp [jd])
def BegE (S:List Ent) (k:Nat) (t':Tb) (vars:List ByteArray) (m:Nat) (r:Rs):Prop :=
 ∃ S' tk' k' I cc,r=(.ref S.length k 0,S',tk',k')/\RTab S' I t' vars m cc/\I.it=S.length/\I.et=k/\S.length<=S'.length/\∀ j,j<S.length->nth S' j=nth S j/\OutR I j
section
variable (S:List Ent) (tk:List Nat) (k:Nat)
set_option maxHeartbeats 8000000 in
set_option maxRecDepth 100000 in
theorem Adq (l:List RowT) (vars:List ByteArray) (c8:l≠[]) (hR:Aa1 l vars) (t':Tb) (b:Bool) (K:Nat) (hK:K9 (2*vars.length+l.length+l.length) K (D0 l vars)=some (b,t')) (L0:List Ent) (n0:Nat) (tk1:List Nat) (cc:Cap) (J:TI) (hJ:Aj4 S k l vars L0 tk1 cc l.length J) (T:List AV)
  (hTl:T.length=119) (t3:getT T 3=.ref S.length k 0) (t56:getT T 56=.int ((2*vars.length+l.length+l.length+1:Nat):Int)) (t57:getT T 57=.int ((0:Nat):Int)) :
  Gd finM (BegE S k t' vars l.length) (KA prog Tryz.f41 9 [] ⟨T,L0,tk1,n0⟩):=by
 obtain ⟨Φ,hΦ⟩:∃ Φ,Φ=BegE S k t' vars l.length:=⟨_,rfl⟩
 rw [<- hΦ]
 obtain ⟨hm,hv,hcl,hc,hn⟩:=hR
 obtain ⟨-,hP0,jm,mf,tq,tu,hL,hcap,a0h,c9⟩:=hJ
 have ik:l.length≠0:=fun h=>c8 (List.length_eq_zero_iff.1 h)
 rw [if_neg ik] at hL
 rw [List.take_length] at hP0
 obtain ⟨R,sd⟩:∃ R,R=linesR vars l.length 0 l:=⟨_,rfl⟩
 obtain ⟨B,se⟩:∃ B,B=(List.range l.length).map (2*vars.length+l.length+·):=⟨_,rfl⟩
 obtain ⟨F,tw⟩:∃ F,F=l.map Zn:=⟨_,rfl⟩
 obtain ⟨W,ro⟩:∃ W,W=2*vars.length+l.length+l.length+1:=⟨_,rfl⟩
 have hRl:R.length=l.length:=by rw [sd,Nm]
 have wg:B.length=l.length:=by rw [se]; simp
 rw [<- sd,<- se,<- tw,<- ro] at hP0
 rw [<- ro] at t56
 obtain ⟨ct,hct⟩:∃ ct:Nat->Q,ct=Adt R (2*vars.length+l.length) l.length:=⟨_,rfl⟩
 have hap:apT prog 57=some 4:=by kernel_rfl
 have wd:=fun S tk k=>Lx S tk k 0 (by unfold i64; omega)
 have hi1:=fun S tk k=>Lx S tk k 1 (by unfold i64; omega)
 refine Ajh rfl (t:=.mk) ?_
 refine Q0 (P:=prog) (fun x st=>st.T.length=119/\(x.2.2.1<=W)/\(PTab x.1 J R B F vars l.length W cc (ohd (L0.length+1) x.2.2.2 x.2.2.1))/\(x.1.length=L0.length+(if x.2.2.1=0 then 0 else x.2.2.1+1))/\(x.2.2.1≠0->entAt x.1 (L0.length+1) x.2.2.2=some (flat ceW ((List.range x.2.2.1).map ct)))/\(∀ j,j<S.length->nth x.1 j=nth S j)/\getT st.T 3=.ref S.length k 0/\getT st.T 56=.int (W:Nat)/\getT st.T 57=.int (x.2.2.1:Nat)/\st.S=x.1/\st.tk=tk1/\st.n=x.2.1) (fun x=>W - x.2.2.1) (L0,n0,0,0) ?_ ?_
 case refine_2=>exact ⟨(by first|rfl|assumption),Nat.zero_le _,hP0,by simp,(fun h=>absurd rfl h),a0h,(by first|rfl|assumption),(by first|rfl|assumption),(by first|rfl|assumption),(by first|rfl|assumption),(by first|rfl|assumption),(by first|rfl|assumption)⟩
 rintro ⟨SS,n1,q,e⟩ ⟨T,S',tk',n'⟩ ⟨hl,hq,hP,kh,hE,fb,e3,e56,e57,eS,eT,eN⟩ IH
 simp only at hq hP kh hE fb e3 e56 e57 eS eT eN
 subst eS eT eN
 obtain ⟨g,hg,hT⟩:=Ap hl
 rw [hg] at e3 e56 e57
 subst hT
 clear hg hl
 have IHA:=IH
 clear IH
 have aq:=hP.top
 rw [jm,mf,hRl,wg] at aq
 obtain ⟨thd,ew⟩:∃ x,x=AV.sref J.ir J.er 0 l.length 1:=⟨_,rfl⟩
 obtain ⟨bhd,gc⟩:∃ x,x=AV.sref J.ib J.eb 0 l.length 1:=⟨_,rfl⟩
 obtain ⟨flp,gz⟩:∃ x,x=AV.frz (F.map Hm) cc:=⟨_,rfl⟩
 obtain ⟨chd,sm⟩:∃ x,x=ohd (L0.length+1) e q:=⟨_,rfl⟩
 rw [V2 ik,V2 ik,<- ew,<- gc,<- gz,<- sm] at aq
 have me:=hP.rowsE (fun h=>ik (by rw [<- hRl,h]; rfl))
 have wl:J.it<L0.length/\J.ir<L0.length/\J.ib<L0.length/\∀ p ∈ J.ids,p.1<L0.length:=⟨hP0.lt.1,by omega,by omega,hP0.lt.2⟩
 have hSL:S.length<L0.length:=by omega
 by_cases hqW:q<W
 ·have c1:decide ((q:Int)<(W:Int))=true:=by simpa using hqW
  have hw:IntKind.i64.wrap ((q:Int)+1)=((q+1:Nat):Int):=by rw [Ad (by unfold i64; omega)]; rfl
  obtain ⟨c0,q8⟩:∃ c0,c0=iQ (if 2*vars.length+l.length<=q/\q<2*vars.length+l.length+l.length then 1 else 0):=⟨_,rfl⟩
  have oc0:okW c0:=by rw [q8]; exact T4 (by unfold i64; split <;> omega)
  have a0i:ct q=colR q R c0:=by rw [hct,q8]; rfl
  have hw1:IntKind.i64.wrap (((2*vars.length+l.length:Nat):Int)+(l.length:Int))=((2*vars.length+l.length+l.length:Nat):Int):=by rw [Ad (by unfold i64; omega)]; rfl
  have ey:∀ cs,entAt (S'++[(⟨n',cs⟩:Ent)]) S.length k=some [thd,bhd,chd,.frz (vars.map strC) .unk,flp,.prim (.int .i64 (l.length:Int))]:=fun cs=>A2 aq
  have hre:=fun cs tk n=>Ly (S'++[(⟨n',cs⟩:Ent)]) tk n S.length k _ bhd _ flp vars l.length (ey cs) (by omega) (by omega)
  have mz:∀ cs cs',put (S'++[(⟨n',cs⟩:Ent)]) S'.length ⟨n',cs'⟩=S'++[⟨n',cs'⟩]:=fun cs cs'=>Pl rfl
  have inner:∀ T,T.length=119->getT T 3=.ref S.length k 0->getT T 6=.int (q:Nat)->getT T 7=.ref S'.length n' 0->getT T 56=.int (W:Nat)->getT T 57=.int (q:Nat)->getT T 81=.int (l.length:Nat)->getT T 82=.int ((0:Nat):Int)->Gd finM Φ (KA prog Tryz.f41 15 [S'.length] ⟨T,S'++[(⟨n',ceW c0⟩:Ent)],tk',n'+1⟩):=by
   intro T hTl t3 t6 t7 t56 t57 t81 t82
   refine Ajh rfl (t:=.mk) ?_
   refine Q0 (P:=prog) (fun x st=>st.T.length=119/\(x.1<=l.length)/\(colR q R c0=colR q (R.drop x.1) x.2)/\(okW x.2)/\getT st.T 3=.ref S.length k 0/\getT st.T 6=.int (q:Nat)/\getT st.T 7=.ref S'.length n' 0/\getT st.T 56=.int (W:Nat)/\getT st.T 57=.int (q:Nat)/\getT st.T 81=.int (l.length:Nat)/\getT st.T 82=.int (x.1:Nat)/\st.S=S'++[(⟨n',ceW x.2⟩:Ent)]/\st.tk=tk'/\st.n=n'+1) (fun x=>l.length - x.1) (0,c0) ?_ ?_
   case refine_2=>exact ⟨(by first|rfl|assumption),Nat.zero_le _,rfl,oc0,(by first|rfl|assumption),(by first|rfl|assumption),(by first|rfl|assumption),(by first|rfl|assumption),(by first|rfl|assumption),(by first|rfl|assumption),(by first|rfl|assumption),(by first|rfl|assumption),(by first|rfl|assumption),(by first|rfl|assumption)⟩
   rintro ⟨i,v⟩ ⟨T,S',tk',n'⟩ ⟨hl,hi,hvc,ov,e3,e6,e7,e56,e57,e81,e82,eS,eT,eN⟩ IH
   simp only at hi hvc ov e3 e6 e7 e56 e57 e81 e82 eS eT eN
   subst eS eT eN
   obtain ⟨g,hg,hT⟩:=Ap hl
   rw [hg] at e3 e6 e7 e56 e57 e81 e82
   subst hT
   clear hg hl
   have eo:=ey (ceW v)
   rw [ew] at eo
   by_cases kd:i<l.length
   ·have c2:decide ((i:Int)<(l.length:Int))=true:=by simpa using kd
    have hwi:IntKind.i64.wrap ((i:Int)+1)=((i+1:Nat):Int):=by rw [Ad (by unfold i64; omega)]; rfl
    obtain ⟨r,hr⟩:=Ab (show i<R.length by omega)
    obtain ⟨p,hp⟩:=Ab (show i<J.ids.length by rw [hP.nids]; omega)
    have ka:nth (List.drop i (J.ids.map (cd W 4))) 0=some (.sref p.1 p.2 0 W 4):=Gm (by rw [Ac] at hp ⊢; rw [List.getElem?_map,hp]; rfl)
    have oj:entAt (S'++[(⟨n',ceW v⟩:Ent)]) p.1 p.2=some (flat ceW r):=A2 (hP.rowE i p r hp hr)
    have n6:entAt (S'++[(⟨n',ceW v⟩:Ent)]) J.ir J.er=some (J.ids.map (cd W 4)):=A2 me
    have hrW:=hP.rowW r (Ak hr)
    obtain ⟨x,hx⟩:=Ab (show q<r.length by omega)
    have ox:=hP.okr r (Ak hr) x (Ak hx)
    have js:=Br (ce:=ceW) Aq hx
    have hD:=fun S tk k=>Afg S tk k v x ov ox
    obtain ⟨y,hy⟩:∃ y,y=(wF.minus v x).1:=⟨_,rfl⟩
    have oy:okW y:=by rw [hy]; exact Ee.minus _ _ ov ox
    rw [<- hy] at hD
    have nd:colR q R c0=colR q (R.drop (i+1)) y:=by rw [hvc,Ar hr,colR,Dd hx,hy]
    have a0j:List.take (S'++[(⟨n',ceW v⟩:Ent)]).length (S'++[(⟨n',ceW y⟩:Ent)])=S'++[⟨n',ceW y⟩]:=List.take_of_length_le (by simp)
    simp (maxSteps:=10^6)+contextual(disch:=try exact dqd)only[evgm,simprocAttr,AV.int,AV.bool,AV.str,results41,e3,e6,e7,e56,e57,e81,e82,c2,hwi,a0j,eo,n6,ka,oj,js,hD,kd,hqW,mz,ovW2,Nat.mul_one,Aq,A3,Dx,Dw,tkW,puW]
    exact IH (i+1,y) _ (by first|omega|(simp only; omega)) ⟨rfl,by first|omega|(dsimp only; omega),nd,oy,by and_intros <;> first|rfl|simp only [getT,List.map_append]⟩
   ·have c2:decide ((i:Int)<(l.length:Int))=false:=by simpa using kd
    rw [List.drop_eq_nil_of_le (by omega),colR,<- a0i] at hvc
    subst hvc
    obtain ⟨cs,dn⟩:∃ cs,cs=(List.range q).map ct:=⟨_,rfl⟩
    have sn:cs.length=q:=by rw [dn]; simp
    have s9:cs=[]↔q=0:=by rw [<- List.length_eq_zero_iff,sn]
    have a0k:(List.range (q+1)).map ct=cs++[ct q]:=by rw [List.range_succ,List.map_append,<- dn]; rfl
    obtain ⟨S2,lu⟩:∃ X,X=En (S'++[(⟨n',ceW (ct q)⟩:Ent)]) (L0.length+1) (n'+1) cs (flat ceW (cs++[ct q])):=⟨_,rfl⟩
    have h0:cs=[]->(S'++[(⟨n',ceW (ct q)⟩:Ent)]).length=L0.length+1:=fun h=>by rw [List.length_append,kh,if_pos (s9.1 h)]; rfl
    have h1:cs≠[]->entAt (S'++[(⟨n',ceW (ct q)⟩:Ent)]) (L0.length+1) e=some (flat ceW cs):=fun h=>by rw [dn]; exact A2 (hE fun e=>h (s9.2 e))
    have a0l:∀ c,apO prog 57 chd (.frz [ceW (ct q)] c) (S'++[(⟨n',ceW (ct q)⟩:Ent)]) (n'+1)=some (.sref (L0.length+1) (n'+1) 0 (q+1) 4,S2,n'+1+1):=fun c=>by
     have:=Am8 (P:=prog) (S:=S'++[(⟨n',ceW (ct q)⟩:Ent)]) (id:=L0.length+1) (e:=e) (n:=n'+1) (l:=cs) (zs:=[ct q]) (c:=c) hap (by simp) h0 h1 (by rw [sn]; simp; omega)
     rw [sn,<- sm,<- lu] at this
     exact this
    have d9:∀ j,j<L0.length->nth S2 j=nth S' j:=fun j hj=>by
     have hLS:L0.length<=S'.length:=by rw [kh]; omega
     rw [lu]; unfold En; split
     ·rw [Eu (by simp; omega),Eu (by omega)]
     ·rw [Ah (by omega),Eu (by omega)]
    have g8:S2.length=S'.length+1+(if q=0 then 1 else 0):=by rw [lu,Aef]; simp only [s9]; simp
    have a0m:entAt S2 (L0.length+1) (n'+1)=some (flat ceW (cs++[ct q])):=by
     rw [lu]; unfold En; split
     ·rename_i h
      rw [<- h0 h]; exact Dr
     ·rename_i h
      exact Am (Bd (h1 h))
    have a0n:entAt S2 S.length k=some [.sref J.ir J.er 0 l.length 1,bhd,chd,.frz (vars.map strC) .unk,flp,.prim (.int .i64 (l.length:Int))]:=by
     rw [Ae (d9 _ hSL),<- ew]; exact aq
    obtain ⟨S3,j0⟩:∃ X,X=put S2 S.length ⟨k,[.sref J.ir J.er 0 l.length 1,bhd,.sref (L0.length+1) (n'+1) 0 (q+1) 4,.frz (vars.map strC) .unk,flp,.prim (.int .i64 (l.length:Int))]⟩:=⟨_,rfl⟩
    have wm:=j0.symm
    have fh:S3.length=S2.length:=by rw [j0,Au]
    have hPf:=hP.frame (S':=S2) wl (by rw [g8,kh]; omega) d9
    have hPx:=hPf.setX (.sref (L0.length+1) (n'+1) 0 (q+1) 4)
    rw [jm,mf,hRl,wg,V2 ik,V2 ik,<- gc,<- gz,wm] at hPx
    have a0o:S3.length=L0.length+(if q+1=0 then 0 else q+1+1):=by
     rw [fh,g8,kh,if_neg (show ¬ q+1=0 by omega)]
     by_cases h:q=0
     ·rw [if_pos h,if_pos h]; omega
     ·rw [if_neg h,if_neg h]; omega
    simp (maxSteps:=10^6)+contextual(disch:=try exact dqd)only[evgm,simprocAttr,AV.int,AV.bool,AV.str,results41,e3,e6,e7,e56,e57,e81,e82,c2,hw,eo,a0l,a0n,wm,Aq,A3,Dx,Dw,tkW,puW]
    exact IHA (S3,n'+1+1,q+1,n'+1) _ (by first|omega|(simp only; omega)) ⟨rfl,by first|omega|(dsimp only; omega),hPx,a0o,fun _=>by rw [j0,An (by first|omega|(dsimp only; omega)),a0k]; exact a0m,fun j hj=>by rw [j0,Ah (by first|omega|(dsimp only; omega)),d9 j (by first|omega|(dsimp only; omega))]; exact fb j hj,by and_intros <;> first|rfl|simp only [getT,List.map_append]⟩
  cases d1:decide ((q:Int) >= ((2*vars.length+l.length:Nat):Int)) <;> cases d2:decide ((q:Int)<((2*vars.length+l.length+l.length:Nat):Int))
  all_goals
   have hcv:c0=iQ (if decide ((q:Int) >= ((2*vars.length+l.length:Nat):Int))=true/\decide ((q:Int)<((2*vars.length+l.length+l.length:Nat):Int))=true then 1 else 0):=by
    rw [q8]; simp only [decide_eq_true_eq,ge_iff_le,Int.ofNat_le,Int.ofNat_lt]
   rw [d1,d2] at hcv
   simp only [Bool.false_eq_true,false_and,and_false,and_self,if_true,if_false] at hcv
   rw [hcv] at inner
   rw [ew] at ey
   simp (maxSteps:=10^6)+contextual(disch:=try exact dqd)only[evgm,simprocAttr,AV.int,AV.bool,AV.str,results41,e3,e56,e57,c1,ey,hre,gO_refl,hw1,d1,d2,wd,hi1,ovW,ovW2,mz,xfs,Aq,A3,Dx,Dw,tkW,puW]
   exact Ahz rfl (inner _ rfl rfl rfl rfl rfl rfl rfl rfl)
 ·have c1:decide ((q:Int)<(W:Int))=false:=by simpa using hqW
  have wk:q=W:=by omega
  have hW0:W≠0:=by omega
  subst wk
  have kk:=hE hW0
  have j7:((List.range q).map ct).length=q:=by simp
  obtain ⟨I2,sa⟩:∃ I2:TI,I2={ J with ic:=L0.length+1,ec:=e }:=⟨_,rfl⟩
  have hbe:D0 l vars={ vars:=vars.length,real:=2*vars.length+l.length,rows:=R,cost:=(List.range q).map ct,basis:=B,flip:=F,fl:=false }:=by
   unfold D0
   simp only [sd,se,tw,hct,ro]
   rfl
  have oct:okL wF ((List.range q).map ct):=by
   intro x hx
   obtain ⟨a,ha,rfl⟩:=List.mem_map.1 hx
   rw [hct]
   unfold Adt
   exact Agf (T4 (by unfold i64; split <;> omega)) fun r hr=>⟨hP.okr r hr,by rw [hP.rowW r hr]; exact List.mem_range.1 ha⟩
  have hLS:L0.length+1<S'.length:=Bd kk
  have hRT:RTab S' I2 (D0 l vars) vars l.length cc:=by
   rw [hbe,sa]
   refine ⟨?_,hP.nids,?_,fun i p r hp hr=>?_,fun r hr=>?_,?_,?_,hP.nb,⟨hP.tr,by show J.it≠L0.length+1; omega,hP.tb,by show J.ir≠L0.length+1; omega,hP.rb,by show L0.length+1≠J.ib; omega,fun p hp=>?_,hP.rows⟩,hP.okr,oct,?_,?_,?_,?_⟩
   ·rw [jm,mf]
    simp only [hRl,j7,intA]
    rw [<- ew,<- gc,<- gz,<- Hh (id:=L0.length+1) (ep:=e) hW0,<- sm]; exact aq
   ·simp only [j7]; exact me
   ·exact hP.rowE i p r hp hr
   ·simp only [j7]; exact hP.rowW r hr
   ·exact kk
   ·exact hP.basisE fun h=>ik (by rw [<- hRl,h]; rfl)
   ·have h1:=hP.row p hp
    exact ⟨h1.1,h1.2.1,by show p.1≠L0.length+1; have:=wl.2.2.2 p hp; omega,h1.2.2⟩
   ·simp only [j7]; omega
   ·simp only [hRl]; omega
   ·simp only [hRl]; omega
   ·simp only [j7]; omega
  have i5:2*vars.length+l.length+l.length<=(D0 l vars).cost.length:=by rw [hbe]; simp only [j7]; omega
  obtain ⟨r,hcall,S3,k3,I3,rfl,tl,iv,h3t,h3e,xq⟩:=Afe S' tk' n' I2 (D0 l vars) t' vars l.length cc _ K b hRT i5 hK
  have h2t:I2.it=S.length:=by rw [sa]; exact jm
  have h2e:I2.et=k:=by rw [sa]; exact mf
  rw [h2t,h2e] at hcall
  have hre:=fun tk n=>Ly S' tk n S.length k _ bhd _ flp vars l.length aq (by omega) (by omega)
  have hw1:IntKind.i64.wrap (((2*vars.length+l.length:Nat):Int)+(l.length:Int))=((2*vars.length+l.length+l.length:Nat):Int):=by rw [Ad (by unfold i64; omega)]; rfl
  simp (maxSteps:=10^6)+contextual(disch:=try exact dqd)only[evgm,simprocAttr,AV.int,AV.bool,AV.str,results41,e3,e56,e57,c1,aq,hre,gO_refl,hw1,hcall,tl,Aab,xfs]
  rw [hΦ]
  refine ⟨S3,_,k3,I3,cc,rfl,iv,h3t.trans h2t,h3e.trans h2e,by omega,fun j hj=>?_⟩
  have ed:OutR I2 j:=by
   rw [sa]
   exact ⟨by show j≠J.it; omega,by show j≠J.ir; omega,by show j≠L0.length+1; omega,by show j≠J.ib; omega,fun p hp=>by have:=c9 p hp; omega⟩
  exact ⟨by rw [(xq j (by omega) ed).1]; exact fb j hj,(xq j (by omega) ed).2⟩
end
end
section
open Go
theorem Ac5 {l:List RowT} : ∀ r ∈ l,∀ c ∈ r.1,c.1 ∈ A4 l:=fun r hr c hc=>by
 refine ((G3 (Dh l)).2.1 c.1).2 ?_
 unfold Dh
 refine List.mem_flatten.2 ⟨r.1.map (·.1),List.mem_map.2 ⟨r,hr,rfl⟩,List.mem_map.2 ⟨c,hc,rfl⟩⟩
end
section
open Go Tryz
section
variable (S:List Ent) (tk:List Nat) (k:Nat)
set_option maxHeartbeats 8000000 in
set_option maxRecDepth 100000 in
theorem Afd (l:List RowT) (c8:l≠[]) (hf:fewC l) (j5:l.length<=64) (hR:Aa1 l (A4 l)) (t':Tb) (b:Bool) (K:Nat) (hK:K9 (2*(A4 l).length+l.length+l.length) K (D0 l (A4 l))=some (b,t')) :
  ∃ r,cL prog 41 [Aj l] S tk k=some r/\BegE S k t' (A4 l) l.length r:=by
 have hn:=fun S tk k=>Jl S tk k l hf j5
 simp only [Aj,Al] at hn
 refine opM func41 ntmps41 ?_
 simp (maxSteps:=10^6)+contextual(disch:=try exact dqd)only[evg1,simprocAttr,AV.int,AV.bool,AV.str,results41,Aj,hn]
 exact Ahz rfl (Adr S tk k l (A4 l) hR _ (fun SS n1 tk1 cc I T hI hTl t3 t56 t57=>Adq S k l (A4 l) c8 hR t' b K hK SS n1 tk1 cc I hI T hTl t3 t56 t57) _ rfl rfl rfl rfl rfl)
theorem Ajl (I:TI) (t:Tb) (vars:List ByteArray) (m:Nat) (cc:Cap) (hT:RTab S I t vars m cc):cL prog 42 [.ref I.it I.et 0] S tk k=some (.bool (Zl t),S,tk,k):=by
 have aq:=hT.top
 have hW:=hT.bigW
 have kk:=hT.costE
 have hp:=hT.posW
 obtain ⟨z,hz⟩:=Ab (show t.cost.length - 1<t.cost.length by omega)
 have kg:=Br (ce:=ceW) Aq hz
 have hs:=fun S tk k=>Lz S tk k z
 have hW1:IntKind.i64.wrap ((t.cost.length:Int) - 1)=((t.cost.length - 1:Nat):Int):=by rw [Ad (by unfold i64; omega)]; omega
 have p5:t.cost.length - 1<t.cost.length:=by omega
 refine opS func42 ntmps42 ?_
 simp (maxSteps:=10^6)+contextual(disch:=try exact dqd)only[evs1,simprocAttr,AV.int,AV.bool,AV.str,results42,aq,kk,kg,hW1,p5,hs,Nat.mul_one,Aq,A3,Dx,Dw,tkW,puW]
 rw [show Zl t=(sgn z == 0) by unfold Zl; rw [Dd hz]]
end
theorem Aoh {l:List RowT} (h0:sysE l=0):Aa1 l (A4 l):=by
 obtain ⟨f1,f2,f3,f4⟩:=Lt h0
 have hr:=T8 (vars:=A4 l) f4 Ac5
 exact ⟨by omega,by omega,fun r h=>by have:=P7 (Ma f4 r h); omega,fun r h c hc=>by have:=(hr r h).2.cof c hc; simp [inB]; omega,fun r h=>by have:=(hr r h).2.con; simp [inB]; omega⟩
section
variable (S:List Ent) (tk:List Nat) (k:Nat)
theorem Um (l:List RowT) (hl:∀ r ∈ l,r.1.length<=1048576) (h0:sysE l≠0):cL prog 24 [Aj l] S tk k=some (.tup [.bool false,.int (sysE l)],S,tk,k):=by
 have hC:=fun S tk k=>Px S tk k l hl
 simp only [Aj] at hC
 have c1:(sysE l != 0)=true:=by simpa using h0
 refine opP func24 ntmps24 (hp3:=rfl) ?_
 simp (maxSteps:=10^6)+contextual(disch:=try exact dqd)only[ev1,simprocAttr,AV.int,AV.bool,AV.str,results24,Aj,hC,c1]
set_option maxRecDepth 100000 in
theorem Ry {l:List RowT} (hl:l.length<=13) (hne:l≠[]) (h0:sysE l=0):∃ b:Bool,(b=true↔∃ v,Sat v l)/\∀ S tk k,cL prog 24 [Aj l] S tk k=some (.tup [.bool b,.int 0],S,tk,k):=by
 obtain ⟨f1,f2,f3,f4⟩:=Lt h0
 have hr:=T8 (vars:=A4 l) f4 Ac5
 obtain ⟨b,t',hK,-,hS⟩:=Agv (l:=l) (Ai9 l) hl hr (Nat.le_refl _)
 refine ⟨Zl t',hS,fun S tk k=>?_⟩
 have hC:=fun S tk k=>Px S tk k l (fun r h=>by have:=P7 (Ma f4 r h); omega)
 rw [h0] at hC
 have c1:((0:Int) != 0)=false:=rfl
 obtain ⟨r,hB,S',tk',k',I,cc,rfl,hT,jm,mf,-,-⟩:=Afd [] [] 0 l hne f1 f2 (Aoh h0) t' b _ hK
 have hF:=Ajl S' tk' k' I t' _ _ cc hT
 rw [jm,mf] at hF
 simp only [Aj,List.length_nil] at hC hB hF
 refine opP func24 ntmps24 (hp3:=rfl) ?_
 simp (maxSteps:=10^6)+contextual(disch:=try exact dqd)only[evm,simprocAttr,AV.int,AV.bool,AV.str,results24,Aj,hC,hB,hF,c1]
end
theorem Ao1 [Globs] {P:Program} [Ext P] {fn:Func} {c:Code} {st:St} {k:List Kont} {tg:Tag (Code.loop c,k)} : KX P fn (.loop c) st k tg=KX P fn c st (.loop c st.S.length :: k) .mk:=Uq
def tabE (x:AV):List AV:=[.frz [] .nilc,.frz [] .nilc,x,.frz [] .unk,.frz [] .nilc,.prim (.int .i64 0)]
section
variable (S:List Ent) (tk:List Nat) (k:Nat)
set_option maxHeartbeats 4000000 in
set_option maxRecDepth 100000 in
theorem Adf (it et:Nat):∃ r,cL prog 58 [.ref it et 0,.int 0] S tk k=some r/\r=(.bool true,S,tk,k):=by
 obtain ⟨Φ,hΦ⟩:∃ Φ:Rs->Prop,Φ=fun r=>r=(.bool true,S,tk,k):=⟨_,rfl⟩
 rw [show (∃ r,cL prog 58 [.ref it et 0,.int 0] S tk k=some r/\r=(.bool true,S,tk,k))=(∃ r,cL prog 58 [.ref it et 0,.int 0] S tk k=some r/\Φ r) by rw [hΦ]]
 have d1:decide ((-1:Int)<0)=true:=rfl
 refine opM func58 ntmps58 ?_
 simp (maxSteps:=10^6)+contextual(disch:=try exact dqd)only[evgm,simprocAttr,AV.int,AV.bool,AV.str,results58,Ao1,d1]
 rw [hΦ]
set_option maxHeartbeats 8000000 in
set_option maxRecDepth 100000 in
theorem Adc:∃ r,cL prog 41 [.frz [] .unk] S tk k=some r/\r=(.ref S.length k 0,S++[⟨k,tabE (.sref (S.length+2) (k+2) 0 1 4)⟩]++[⟨k+1,ceW (iQ 0)⟩]++[⟨k+2,ceW (iQ 0)⟩],tk,k+3):=by
 obtain ⟨G,hG⟩:∃ G:Rs,G=(.ref S.length k 0,S++[⟨k,tabE (.sref (S.length+2) (k+2) 0 1 4)⟩]++[⟨k+1,ceW (iQ 0)⟩]++[⟨k+2,ceW (iQ 0)⟩],tk,k+3):=⟨_,rfl⟩
 rw [<- hG]
 obtain ⟨Φ,hΦ⟩:∃ Φ:Rs->Prop,Φ=fun r=>r=G:=⟨_,rfl⟩
 rw [show (∃ r,cL prog 41 [.frz [] .unk] S tk k=some r/\r=G)=(∃ r,cL prog 41 [.frz [] .unk] S tk k=some r/\Φ r) by rw [hΦ]]
 have hn:=fun S tk k=>Jl S tk k [] (by intro r h; simp at h) (by simp)
 have wd:=fun S tk k=>Lx S tk k 0 (by unfold i64; omega)
 have hA:∀ X,entAt (S++[(⟨k,X⟩:Ent)]) S.length k=some X:=fun X=>Dr
 have hB:∀ X (e:Ent),entAt (S++[(⟨k,X⟩:Ent)]++[e]) S.length k=some X:=fun X e=>A2 Dr
 have hC:∀ X (e f:Ent),entAt (S++[(⟨k,X⟩:Ent)]++[e]++[f]) S.length k=some X:=fun X e f=>A2 (A2 Dr)
 have hre:∀ X x tk n,entAt X S.length k=some (tabE x)->cL prog 55 [.ref S.length k 0] X tk n=some (.int 0,X,tk,n):=fun X x tk n h=>Ly X tk n S.length k (.frz [] .nilc) (.frz [] .nilc) x (.frz [] .nilc) [] 0 h (by simp) (by simp)
 have wo:=fun tk n=>hre (S++[(⟨k,tabE (.frz [] .nilc)⟩:Ent)]) _ tk n (hA _)
 have oj:=fun e tk n=>hre (S++[(⟨k,tabE (.frz [] .nilc)⟩:Ent)]++[e]) _ tk n (hB _ e)
 have ws:=fun e f x tk n=>hre (S++[(⟨k,tabE x⟩:Ent)]++[e]++[f]) _ tk n (hC _ e f)
 have gt:∀ X tk n,cL prog 58 [.ref S.length k 0,.int 0] X tk n=some (.bool true,X,tk,n):=fun X tk n=>by obtain ⟨r,h,rfl⟩:=Adf X tk n S.length k; exact h
 simp only [tabE] at wo oj ws
 have ip:A4 []=[]:=rfl
 simp only [Aj,Al,ip,List.map_nil] at hn
 have ve:IntKind.i64.wrap 0=0:=by decide
 have hw1:IntKind.i64.wrap 1=1:=by decide
 have uh:∀ (X:Ent) cs cs',put (S++[X]++[(⟨k+1,cs⟩:Ent)]) (S++[X]).length ⟨k+1,cs'⟩=S++[X]++[⟨k+1,cs'⟩]:=fun X cs cs'=>Pl rfl
 have hp3:∀ X Y (e f:Ent),put (S++[(⟨k,X⟩:Ent)]++[e]++[f]) S.length ⟨k,Y⟩=S++[⟨k,Y⟩]++[e]++[f]:=fun X Y e f=>by rw [Z6 (by simp),Z6 (by simp),Pl rfl]
 have hap:apT prog 57=some 4:=by kernel_rfl
 have dx:∀ t,t=57->∀ c X n,apO prog t (.frz [] .nilc) (.frz [ceW (iQ 0)] c) X n=some (.sref X.length n 0 1 4,X++[⟨n,ceW (iQ 0)⟩],n+1):=fun t ht c X n=>by rw [ht]; exact Afr hap (Aq _) (A3 _)
 have dx:=dx _ rfl
 refine opM func41 ntmps41 ?_
 simp (maxSteps:=10^6)+contextual(disch:=try exact dqd)only[evgm,simprocAttr,AV.int,AV.bool,AV.str,results41,Ao1,hn,wd,hA,hB,hC,wo,oj,ws,gt,gO_refl,Aab,ve,hw1,uh,hp3,dx,ovW,ovW2,xfs,Aq,A3,Dx,Dw,tkW,puW]
 rw [hΦ,hG]
 simp [tabE,Nat.add_assoc]
theorem Afc (it et ic ec n:Nat) (a b v f:AV) (m:Int) (cost:List Q) (ht:entAt S it et=some [a,b,.sref ic ec 0 cost.length 4,v,f,.prim (.int .i64 m)]) (kk:entAt S ic ec=some (flat ceW cost)) (hp:0<cost.length) (hW:cost.length<=1000000):cL prog 42 [.ref it et 0] S tk k=some (.bool (sgn (at_ q0 cost (cost.length - 1)) == 0),S,tk,k):=by
 obtain ⟨z,hz⟩:=Ab (show cost.length - 1<cost.length by omega)
 have kg:=Br (ce:=ceW) Aq hz
 have hs:=fun S tk k=>Lz S tk k z
 have hW1:IntKind.i64.wrap ((cost.length:Int) - 1)=((cost.length - 1:Nat):Int):=by rw [Ad (by unfold i64; omega)]; omega
 have p5:cost.length - 1<cost.length:=by omega
 refine opS func42 ntmps42 ?_
 simp (maxSteps:=10^6)+contextual(disch:=try exact dqd)only[evs1,simprocAttr,AV.int,AV.bool,AV.str,results42,ht,kk,kg,hW1,p5,hs,Nat.mul_one,Aq,A3,Dx,Dw,tkW,puW]
 rw [Dd hz]
set_option maxRecDepth 100000 in
theorem Uo:cL prog 24 [Aj []] S tk k=some (.tup [.bool true,.int 0],S,tk,k):=by
 have hC:=fun S tk k=>Px S tk k [] (fun r h=>by simp at h)
 have h0:sysE []=0:=by decide
 rw [h0] at hC
 have c1:((0:Int) != 0)=false:=rfl
 obtain ⟨r,hB,rfl⟩:=Adc [] [] 0
 have hF:=fun tk k=>Afc ([]++[(⟨0,tabE (.sref 2 2 0 1 4)⟩:Ent)]++[⟨0+1,ceW (iQ 0)⟩]++[⟨0+2,ceW (iQ 0)⟩]) tk k 0 0 2 2 0 _ _ _ _ _ [iQ 0] rfl rfl (by simp) (by simp)
 have hs:(sgn (at_ q0 [iQ 0] ([iQ 0].length - 1)) == 0)=true:=by decide
 rw [hs] at hF
 simp only [Aj,List.map_nil,List.nil_append,List.cons_append,List.length_nil,Nat.zero_add] at hC hB hF
 refine opP func24 ntmps24 (hp3:=rfl) ?_
 simp (maxSteps:=10^6)+contextual(disch:=try exact dqd)only[evm,simprocAttr,AV.int,AV.bool,AV.str,results24,Aj,List.map_nil,hC,hB,hF,c1]
end
def Ta (sat:Pt->Bool) (r:Int) (ns:List ByteArray) (pt:Pt) (reached:Bool):AV:=match ns with
 | []=>.tup [Aa pt,.bool ((reached || r == 0) && sat pt)]
 | s :: ns=>match A6 sat r (s :: ns) pt (reached || r == 0) with
  | some p=>.tup [Aa p,.bool true]
  | none=>.tup [.frz [] .unk,.bool false]
theorem Ub (sat:Pt->Bool) (r:Int) (ns:List ByteArray) (pt:Pt) (reached:Bool):∃ a b,Ta sat r ns pt reached=.tup [a,.bool b] /\
  ((b=false/\A6 sat r ns pt (reached || r == 0)=none)\/(b=true/\∃ p,A6 sat r ns pt (reached || r == 0)=some p/\a=Aa p)):=by
 cases ns with
 | nil =>
  refine ⟨_,_,rfl,?_⟩
  simp only [A6]
  cases h:((reached || r == 0) && sat pt) with
  | false=>exact .inl ⟨rfl,rfl⟩
  | true=>exact .inr ⟨rfl,pt,rfl,rfl⟩
 | cons s ns =>
  simp only [Ta]
  cases h:A6 sat r (s :: ns) pt (reached || r == 0) with
  | none=>exact ⟨_,_,rfl,.inl ⟨rfl,rfl⟩⟩
  | some p=>exact ⟨_,_,rfl,.inr ⟨rfl,p,rfl,rfl⟩⟩
theorem Yw (sat:Pt->Bool) (r:Int) (ns:List ByteArray) (pt:Pt) (reached:Bool):pure3 (Ta sat r ns pt reached)=true:=by
 cases ns with
 | nil=>rfl
 | cons s ns =>
  simp only [Ta]
  split <;> rfl
section
variable (S:List Ent) (tk:List Nat) (k:Nat)
set_option maxRecDepth 100000 in
set_option maxHeartbeats 4000000 in
theorem Adh (l:List RowT) (names:List ByteArray) (r:Int) (hl:l.length<=1048576) (ji:∀ x ∈ l,x.1.length<=1048576) (hn6:names.length<=6) (h0:0<=r) (h8:r<=8):∀ (ns:List ByteArray) (pt:Pt) (c:Cap) (reached:Bool),
  pt.length+ns.length=names.length->names.drop pt.length=ns->∀ S tk k,cL prog 25 [Aj l,Al names,.frz (pt.map A1) c,.int r,.bool reached] S tk k=some (Ta (satF l) r ns pt reached,S,tk,k):=by
 intro ns
 induction ns with
 | nil =>
  intro pt c reached hlen cd S tk k
  have d0:((pt.length:Int) == (names.length:Int))=true:=by simp at hlen ⊢; omega
  have hS:=fun S tk k=>Up S tk k l pt hl ji (by simp at hlen; omega)
  simp only [Aj,Aa] at hS
  refine opP func25 ntmps25 (hp3:=Yw _ _ _ _ _) ?_
  simp only [Ta]
  cases reached with
  | true=>simp (maxSteps:=10^6)+contextual(disch:=try exact dqd)only[ev1,simprocAttr,AV.int,AV.bool,AV.str,results25,Aj,Al,Aa,d0,hS,Bool.true_or,Bool.true_and]
  | false =>
   cases h1:(r == 0) with
   | true=>simp (maxSteps:=10^6)+contextual(disch:=try exact dqd)only[ev1,simprocAttr,AV.int,AV.bool,AV.str,results25,Aj,Al,Aa,d0,hS,h1,Bool.false_or,Bool.true_and]
   | false=>simp (maxSteps:=10^6)+contextual(disch:=try exact dqd)only[ev1,simprocAttr,AV.int,AV.bool,AV.str,results25,Aj,Al,Aa,d0,hS,h1,Bool.false_or,Bool.false_and]
 | cons s ns ih =>
  intro pt c reached hlen cd S tk k
  have hpl:pt.length<names.length:=by simp at hlen; omega
  have d0:((pt.length:Int) == (names.length:Int))=false:=by simp; omega
  have hV:=fun S tk k=>Adg S tk k r
  have il:nth names pt.length=some s:=by
   obtain ⟨y,hy⟩:=Ab hpl
   have:=Ar hy
   rw [cd] at this
   rw [hy]; exact congrArg some (List.cons.inj this).1.symm
  have hs:nth (names.map strC) pt.length=some (strC s):=by rw [Bt,il]; rfl
  have a0p:∀ n:Int,names.drop (pt++[(s,n)]).length=ns:=fun n=>by
   have:=Ar il
   rw [cd] at this
   rw [List.length_append]; exact (List.cons.inj this).2.symm
  have hrp:=Du (f:=A1) (sz:=2) (fun _=>rfl) pt
  have hpn:(pt.map A1).length+1<=1048576:=by simp; omega
  have hvl:(Db r).length<=100:=by
   unfold Db
   rw [if_neg (by omega),Kd]; omega
  have wt:=fun tk=>apB_all (tk:=tk) (c:=.tight) (es:=[]) (ys:=pt.map A1) rfl rfl hrp (by simp; omega)
  have ol:=fun (n:Int) tk=>apB_one (tk:=Ep tk .tight) (c:=Bp tk .tight 2) (es:=pt.map A1) (y:=[.prim (.string s),.prim (.int .i64 n)]) (D2 rfl) hrp rfl hpn
  simp only [List.nil_append] at wt
  simp only [strC] at hs
  refine opP func25 ntmps25 (hp3:=Yw _ _ _ _ _) ?_
  simp (maxSteps:=10^6)+contextual(disch:=try exact dqd)only[ev1,simprocAttr,AV.int,AV.bool,AV.str,results25,Aj,Al,d0,hV]
  refine loop1 (P:=prog) (fun x st=>st.T.length=76/\(x<=(Db r).length)/\(A6 (satF l) r (s :: ns) pt (reached || r == 0)=((Db r).drop x).findSome? fun n=>A6 (satF l) r ns (pt++[(s,n)]) ((reached || r == 0) || n == r || n == -r))/\getT st.T 0=Aj l/\getT st.T 1=Al names/\getT st.T 2=Aa pt/\getT st.T 3=.int r/\getT st.T 4=.bool reached/\getT st.T 12=.frz ((Db r).map intC) .unk/\getT st.T 13=.int (x:Nat)/\st.S=[]) (fun x=>(Db r).length - x) (fun x=>Ta (satF l) r (s :: ns) pt reached) (0) ?_ ?_
  case refine_2=>exact ⟨rfl,Nat.zero_le _,rfl,rfl,rfl,rfl,rfl,rfl,rfl,rfl,rfl⟩
  rintro i ⟨T,S',tk',n'⟩ ⟨hl,hi,hE,e0,e1,e2,e3,e4,e12,e13,eS⟩ IH
  subst eS
  obtain ⟨g,hg,hT⟩:=Ap hl
  rw [hg] at e0 e1 e2 e3 e4 e12 e13
  subst hT
  clear hg hl
  have hw:=Av (i:=i) (by omega)
  by_cases hlt:i<(Db r).length
  ·have d1:decide ((i:Int)<((Db r).length:Int))=true:=by simpa using hlt
   obtain ⟨n,hn⟩:=Ab hlt
   have lj:nth ((Db r).map intC) i=some (intC n):=by rw [Bt,hn]; rfl
   simp only [intC] at lj
   have hab:=(Jw h0 h8).1 (Ak hn)
   have hZ:=fun S tk k=>Ajo S tk k n (by unfold i64; omega)
   have hz:szF n=(n.natAbs:Int):=by unfold szF; rw [if_neg (by omega)]
   rw [hz] at hZ
   rw [Ar hn,List.findSome?_cons] at hE
   obtain ⟨q,hq⟩:∃ q,q=(reached || ((n.natAbs:Int) == r)):=⟨_,rfl⟩
   have wk:(q || r == 0)=((reached || r == 0) || n == r || n == -r):=by
    rw [hq]
    cases reached <;> simp only [Bool.true_or,Bool.false_or]
    apply Bool.eq_iff_iff.2
    simp only [Bool.or_eq_true,beq_iff_eq]
    omega
   have hI:=fun c S tk k=>ih (pt++[(s,n)]) c q (by simp at hlen ⊢; omega) (a0p n) S tk k
   obtain ⟨a,b,e1',e2'⟩:=Ub (satF l) r ns (pt++[(s,n)]) q
   rw [e1'] at hI
   rw [wk] at e2'
   simp only [Aj,Al,List.map_append,List.map_cons,List.map_nil,A1] at hI
   rcases e2' with ⟨rfl,hp⟩|⟨rfl,p,hp,rfl⟩
   ·rw [hp] at hE
    cases reached with
    | true =>
     have ju:q=true:=by rw [hq]; rfl
     rw [ju] at hI
     simp (maxSteps:=10^6)+contextual(disch:=try exact dqd)only[ev1,simprocAttr,AV.int,AV.bool,AV.str,results25,e0,e1,e2,e3,e4,e12,e13,d1,Aj,Al,Aa,lj,hs,wt,ol,hpl,hI,hw]
     exact IH (i+1) _ (by first|omega|(simp only; omega)) ⟨rfl,hlt,hE,(by first|rfl|simp only [getT,List.map_append,List.map_cons,List.map_nil]),(by first|rfl|simp only [getT,List.map_append,List.map_cons,List.map_nil]),(by first|rfl|simp only [getT,List.map_append,List.map_cons,List.map_nil]),(by first|rfl|simp only [getT,List.map_append,List.map_cons,List.map_nil]),(by first|rfl|simp only [getT,List.map_append,List.map_cons,List.map_nil]),(by first|rfl|simp only [getT,List.map_append,List.map_cons,List.map_nil]),(by first|rfl|simp only [getT,List.map_append,List.map_cons,List.map_nil]),(by first|rfl|simp only [getT,List.map_append,List.map_cons,List.map_nil])⟩
    | false =>
     have ju:q=((n.natAbs:Int) == r):=by rw [hq]; rfl
     rw [ju] at hI
     simp (maxSteps:=10^6)+contextual(disch:=try exact dqd)only[ev1,simprocAttr,AV.int,AV.bool,AV.str,results25,e0,e1,e2,e3,e4,e12,e13,d1,Aj,Al,Aa,lj,hs,wt,ol,hpl,hI,hZ,hw]
     exact IH (i+1) _ (by first|omega|(simp only; omega)) ⟨rfl,hlt,hE,(by first|rfl|simp only [getT,List.map_append,List.map_cons,List.map_nil]),(by first|rfl|simp only [getT,List.map_append,List.map_cons,List.map_nil]),(by first|rfl|simp only [getT,List.map_append,List.map_cons,List.map_nil]),(by first|rfl|simp only [getT,List.map_append,List.map_cons,List.map_nil]),(by first|rfl|simp only [getT,List.map_append,List.map_cons,List.map_nil]),(by first|rfl|simp only [getT,List.map_append,List.map_cons,List.map_nil]),(by first|rfl|simp only [getT,List.map_append,List.map_cons,List.map_nil]),(by first|rfl|simp only [getT,List.map_append,List.map_cons,List.map_nil])⟩
   ·rw [hp] at hE
    have hr:Ta (satF l) r (s :: ns) pt reached=.tup [Aa p,.bool true]:=by simp only [Ta,hE]
    rw [hr]
    simp only [Aa] at hI
    cases reached with
    | true =>
     have ju:q=true:=by rw [hq]; rfl
     rw [ju] at hI
     simp (maxSteps:=10^6)+contextual(disch:=try exact dqd)only[ev1,simprocAttr,AV.int,AV.bool,AV.str,results25,e0,e1,e2,e3,e4,e12,e13,d1,Aj,Al,Aa,lj,hs,wt,ol,hpl,hI]
    | false =>
     have ju:q=((n.natAbs:Int) == r):=by rw [hq]; rfl
     rw [ju] at hI
     simp (maxSteps:=10^6)+contextual(disch:=try exact dqd)only[ev1,simprocAttr,AV.int,AV.bool,AV.str,results25,e0,e1,e2,e3,e4,e12,e13,d1,Aj,Al,Aa,lj,hs,wt,ol,hpl,hI,hZ]
  ·have d1:decide ((i:Int)<((Db r).length:Int))=false:=by simpa using hlt
   have bp:i=(Db r).length:=by omega
   rw [bp,List.drop_length] at hE
   simp only [List.findSome?_nil] at hE
   simp (maxSteps:=10^6)+contextual(disch:=try exact dqd)only[ev1,simprocAttr,AV.int,AV.bool,AV.str,results25,e0,e1,e2,e3,e4,e12,e13,d1]
   simp only [Ta,hE]
theorem Py {l:List RowT} (hl:l.length<=13) (c8:∀ r ∈ l,r.1.length<=1048576):∃ b:Bool,∀ S tk k,cL prog 24 [Aj l] S tk k=some (.tup [.bool b,.int (sysE l)],S,tk,k):=by
 by_cases h0:sysE l=0
 ·rw [h0]
  by_cases hne:l=[]
  ·subst hne
   exact ⟨true,fun S tk k=>Uo S tk k⟩
  ·obtain ⟨b,-,e⟩:=Ry hl hne h0
   exact ⟨b,e⟩
 ·exact ⟨false,fun S tk k=>Um S tk k l c8 h0⟩
theorem Abv {sat:Pt->Bool} : ∀ {k j:Nat},0<j->Ge sat [] j k=none
 | 0,_,_=>rfl
 | k+1,j,h=>by
  have h1:(((j:Nat):Int) == 0)=false:=by simp; omega
  simp only [Ge,A6,h1,Bool.false_and,Bool.false_eq_true,if_false]
  exact Abv (by omega)
def fndR (l:List RowT) (most:Int):AV:=match fndF l most with
 | some p=>.tup [Aa p,.bool true]
 | none=>.tup [.frz [] .unk,.bool false]
theorem Ag4 (l:List RowT) (most:Int):pure3 (fndR l most)=true:=by
 unfold fndR
 split <;> rfl
set_option maxRecDepth 100000 in
set_option maxHeartbeats 4000000 in
theorem Ajn (l:List RowT) (most:Int) (h13:l.length<=8) (ji:∀ r ∈ l,r.1.length<=8):cL prog 8 [Aj l,.int most] S tk k=some (fndR l most,S,tk,k):=by
 have hno:∀ h:okF l most=false,fndR l most=.tup [.frz [] .unk,.bool false]:=fun h=>by simp [fndR,fndF,h]
 refine opP func8 ntmps8 (hp3:=Ag4 _ _) ?_
 by_cases m0:most<0
 ·have d0:decide (most<0)=true:=by simpa using m0
  rw [hno (by unfold okF; simp; omega)]
  simp (maxSteps:=10^6)+contextual(disch:=try exact dqd)only[ev1,simprocAttr,AV.int,AV.bool,AV.str,results8,Aj,d0]
 have d0:decide (most<0)=false:=by simpa using m0
 by_cases m8:most > 8
 ·have d8:decide (most > 8)=true:=by simpa using m8
  rw [hno (by unfold okF; simp; omega)]
  simp (maxSteps:=10^6)+contextual(disch:=try exact dqd)only[ev1,simprocAttr,AV.int,AV.bool,AV.str,results8,Aj,d0,d8]
 have d8:decide (most > 8)=false:=by simpa using m8
 obtain ⟨b,hF⟩:=Py (l:=l) (by omega) (fun r h=>by have:=ji r h; omega)
 have hV:=fun S tk k=>Wp S tk k l
 simp only [Aj] at hF hV
 by_cases hs:sysE l=0
 case neg =>
  have c1:(sysE l != 0)=true:=by simpa using hs
  rw [hno (by unfold okF; simp [hs])]
  simp (maxSteps:=10^6)+contextual(disch:=try exact dqd)only[ev1,simprocAttr,AV.int,AV.bool,AV.str,results8,Aj,d0,d8,hF,hV,c1]
 have c1:(sysE l != 0)=false:=by simpa using hs
 have hvo:Gl l=A4 l:=if_pos hs
 rw [hvo] at hV
 by_cases h6:(A4 l).length<=6
 case neg =>
  have c6:decide (((A4 l).length:Int) > 6)=true:=by simp; omega
  rw [hno (by unfold okF; simp [h6])]
  simp (maxSteps:=10^6)+contextual(disch:=try exact dqd)only[ev1,simprocAttr,AV.int,AV.bool,AV.str,results8,Aj,Al,d0,d8,hF,hV,c1,c6]
 have c6:decide (((A4 l).length:Int) > 6)=false:=by simp; omega
 obtain ⟨m,rfl⟩:∃ m:Nat,most=(m:Int):=⟨most.toNat,by omega⟩
 have hf:fndF l (m:Int)=Ge (satF l) (A4 l) 0 (m+1):=by
  unfold fndF
  rw [if_pos (by unfold okF; simp [hs,h6]; omega)]
  rfl
 obtain ⟨F,hF0⟩:∃ F,F=Ge (satF l) (A4 l) 0 (m+1):=⟨_,rfl⟩
 rw [<- hF0] at hf
 simp (maxSteps:=10^6)+contextual(disch:=try exact dqd)only[ev1,simprocAttr,AV.int,AV.bool,AV.str,results8,Aj,Al,d0,d8,hF,hV,c1,c6]
 refine loop1 (P:=prog) (fun x st=>st.T.length=50/\(x<=m+1)/\(F=Ge (satF l) (A4 l) x (m+1 - x))/\(x=0\/A4 l≠[])/\getT st.T 0=Aj l/\getT st.T 1=.int (m:Nat)/\getT st.T 8=Al (A4 l)/\getT st.T 9=.int (x:Nat)/\st.S=[]) (fun x=>m+1 - x) (fun x=>fndR l (m:Int)) (0) ?_ ?_
 case refine_2=>exact ⟨rfl,Nat.zero_le _,hF0,.inl rfl,rfl,rfl,rfl,rfl,rfl⟩
 rintro n ⟨T,S',tk',n'⟩ ⟨hl,hn,hE,hz,e0,e1,e8,e9,eS⟩ IH
 subst eS
 obtain ⟨g,hg,hT⟩:=Ap hl
 rw [hg] at e0 e1 e8 e9
 subst hT
 clear hg hl
 have hw:=Av (i:=n) (by omega)
 by_cases hlt:n<=m
 ·have d1:decide ((n:Int)<=(m:Int))=true:=by simpa using hlt
  obtain ⟨a,b2,e1',e2'⟩:=Ub (satF l) (n:Int) (A4 l) [] false
  have hI:=fun c S tk k=>Adh l (A4 l) (n:Int) (by omega) (fun x h=>by have:=ji x h; omega) h6 (by omega) (by omega) (A4 l) [] c false (by simp) rfl S tk k
  rw [e1'] at hI
  simp only [Aj,Al,List.map_nil] at hI
  rw [show m+1 - n=(m - n)+1 by omega,Ge] at hE
  simp only [Bool.false_or] at e2'
  cases b2 with
  | true =>
   rcases e2' with ⟨h,-⟩|⟨-,p,hp,rfl⟩
   ·cases h
   rw [hp] at hE
   have hr:fndR l (m:Int)=.tup [Aa p,.bool true]:=by simp only [fndR,hf,hE]
   rw [hr]
   simp only [Aa] at hI
   simp (maxSteps:=10^6)+contextual(disch:=try exact dqd)only[ev1,simprocAttr,AV.int,AV.bool,AV.str,results8,e0,e1,e8,e9,d1,Aj,Al,Aa,hI]
  | false =>
   rcases e2' with ⟨-,hp⟩|⟨h,-⟩
   case inr=>cases h
   rw [hp] at hE
   by_cases ip:A4 l=[]
   ·have c0:(((A4 l).length:Int) == 0)=true:=by simp [ip]
    have hr:fndR l (m:Int)=.tup [.frz [] .unk,.bool false]:=by
     rw [ip,Abv (by omega)] at hE
     simp only [fndR,hf,hE]
    rw [hr]
    simp (maxSteps:=10^6)+contextual(disch:=try exact dqd)only[ev1,simprocAttr,AV.int,AV.bool,AV.str,results8,e0,e1,e8,e9,d1,Aj,Al,hI,c0]
   ·have c0:(((A4 l).length:Int) == 0)=false:=by
     have:=List.length_pos_iff.2 ip
     simp; exact ip
    simp (maxSteps:=10^6)+contextual(disch:=try exact dqd)only[ev1,simprocAttr,AV.int,AV.bool,AV.str,results8,e0,e1,e8,e9,d1,Aj,Al,hI,c0,hw]
    exact IH (n+1) _ (by first|omega|(simp only; omega)) ⟨rfl,by first|omega|(dsimp only; omega),by rw [hE,show m+1 - (n+1)=m - n by first|omega|(dsimp only; omega)],.inr ip,(by first|rfl|simp only [getT,List.map_append,List.map_cons,List.map_nil]),(by first|rfl|simp only [getT,List.map_append,List.map_cons,List.map_nil]),(by first|rfl|simp only [getT,List.map_append,List.map_cons,List.map_nil]),(by first|rfl|simp only [getT,List.map_append,List.map_cons,List.map_nil]),(by first|rfl|simp only [getT,List.map_append,List.map_cons,List.map_nil])⟩
 ·have d1:decide ((n:Int)<=(m:Int))=false:=by simpa using hlt
  have hr:fndR l (m:Int)=.tup [.frz [] .unk,.bool false]:=by
   rw [show m+1 - n=0 by omega] at hE
   simp only [fndR,hf,hE,Ge]
  rw [hr]
  simp (maxSteps:=10^6)+contextual(disch:=try exact dqd)only[ev1,simprocAttr,AV.int,AV.bool,AV.str,results8,e0,e1,e8,e9,d1]
end
end
section
open Go Tryz Go.RowKit
theorem Xg:∀ {a b:List (ByteArray × Int)},a.map A1=b.map A1->a=b
 | [],[],_=>rfl
 | [],_ :: _,h=>by simp at h
 | _ :: _,[],h=>by simp at h
 | x :: a,y :: b,h=>by
  simp only [List.map_cons,List.cons.injEq,A1,AV.prim.injEq,Value.string.injEq,Value.int.injEq,and_true,true_and] at h
  rw [Xg h.2,Prod.ext h.1.1 h.1.2]
theorem Acr:∀ {a b:List RowT},a.map rowC=b.map rowC->a=b
 | [],[],_=>rfl
 | [],_ :: _,h=>by simp at h
 | _ :: _,[],h=>by simp at h
 | x :: a,y :: b,h=>by
  simp only [List.map_cons,List.cons.injEq,rowC,Aa,AV.frz.injEq,AV.prim.injEq,Value.bool.injEq,Value.int.injEq,and_true,true_and] at h
  rw [Acr h.2,Prod.ext (Xg h.1.1) (Prod.ext h.1.2.1 h.1.2.2)]
def fndA (l:List RowT) (most:Int):AV:=.tup [Aa ((fndF l most).getD []),.prim (.bool (fndF l most).isSome)]
open Classical in
noncomputable def fndC (args:List AV):Option AV:=if h:∃ q:List RowT × Int,args=[Aj q.1,.prim (.int .i64 q.2)] then some (fndA h.choose.1 h.choose.2) else none
theorem Ag3 {args:List AV} {r:AV} (h:fndC args=some r):∃ l most,args=[Aj l,.prim (.int .i64 most)]/\r=fndA l most:=by
 unfold fndC at h
 split at h
 ·rename_i hp
  simp only [Option.some.injEq] at h
  exact ⟨_,_,hp.choose_spec,h.symm⟩
 ·simp at h
theorem Ag2 (l:List RowT) (most:Int):fndC [Aj l,.prim (.int .i64 most)]=some (fndA l most):=by
 have hx:∃ q:List RowT × Int,[Aj l,AV.prim (.int .i64 most)]=[Aj q.1,.prim (.int .i64 q.2)]:=⟨(l,most),rfl⟩
 unfold fndC
 rw [dif_pos hx]
 have h1:=hx.choose_spec
 generalize hx.choose=q at h1 ⊢
 simp only [Aj,List.cons.injEq,AV.frz.injEq,AV.prim.injEq,Value.int.injEq,and_true,true_and] at h1
 rw [<- Acr h1.1,<- h1.2]
noncomputable def fndX (f:FuncId) (args:List AV) (S:List Ent) (tk:List Nat) (n:Nat):Option (AV × List Ent × List Nat × Nat) :=
 if f == 7 then (fndC (args.map w2)).map fun r=>(r,S,tk,n) else @Ext.call prog E1 f args S tk n
@[reducible] noncomputable def E2:Ext prog where
 on:=fun f=>f == 48 || f == 174 || f == 7
 mv:=mvF0
 call:=fndX
theorem Ad0 {args:List AV} {S:List Ent} {tk:List Nat} {n:Nat} : @Ext.call prog E1 7 args S tk n=none:=by simp [Ext.call]
theorem E1_le:CLe (@Ext.call prog E1) (@Ext.call prog E2):=by
 intro f args S tk n r h
 show fndX _ _ _ _ _=some r
 unfold fndX
 split
 ·rename_i hf
  have hf:f=7:=by simpa using hf
  subst hf
  rw [Ad0] at h; cases h
 ·exact h
theorem told2 {f:FuncId} {args:List AV} {S:List Ent} {tk:List Nat} {n:Nat} {r:AV × List Ent × List Nat × Nat} (h:@cL _ prog E1 f args S tk n=some r):@cL _ prog E2 f args S tk n=some r:=Alp (E:=E2) E1_le h
theorem Aoz {C:Cx} {vs:Array Value} (hs:SR C) (l:List RowT) (most:Int) (hv:VRs C [Aj l,.prim (.int .i64 most)] vs.toList) :
  Calls prog 7 vs C.w fun e w'=>∃ v C',e=.returned v/\C'.w=w'/\Le C C'/\SR C'/\C'.S=C.S/\C'.tk=C.tk/\C'.n=C.n/\VR C' (fndA l most) v:=by
 obtain ⟨vl⟩:=vs
 match vl,hv with
 | [x,y],hv =>
 simp only [VRs,VR,Aj,and_true] at hv
 obtain ⟨⟨a,len,cap,rfl,h1,h2,-,h4⟩,rfl⟩:=hv
 rw [List.length_map] at h1
 subst h1
 have hA:Gx C.Avoid C.w:=fun b o h=>by
  rcases h with h|h
  ·exact hs.avlt b o h
  ·exact Acb hs h
 have ip:VR (Cq C.Avoid C.w) (Aj l) (.slice a l.length cap):=by
  simp only [Aj,VR]
  refine ⟨_,_,_,rfl,by simp,h2,trivial,h4.imp id ?_⟩
  rintro ⟨b,o,sz,rfl,hr⟩
  exact ⟨b,o,sz,rfl,A5.stays (A':=(Cq C.Avoid C.w).Avoid) (fun _ _ _ hv ha=>⟨hv,Lu ha⟩) _ _ _ _ hr⟩
 refine (callsIn_wide.1 (Anw l most C.w a cap hA ip)).mono ?_
 rintro e w' ⟨v,rfl,hp,hb⟩
 refine ⟨_,C.at w',rfl,rfl,Le.of_below hb,SR.of_below hs hb,rfl,rfl,rfl,?_⟩
 simp only [fndA,VR]
 refine ⟨_,rfl,?_⟩
 simp only [VRs,VR,and_true]
 simp only [Aa,VR] at hp ⊢
 obtain ⟨a',len,cap',rfl,g1,g2,-,g4⟩:=hp
 refine ⟨a',len,cap',rfl,g1,g2,trivial,g4.imp id ?_⟩
 rintro ⟨b,o,sz,rfl,hr⟩
 refine ⟨b,o,sz,rfl,A5.stays (A':=(C.at w').Avoid) (fun b' o' _ hv ha=>⟨hv,fun h=>Amk ha ?_⟩) _ _ _ _ hr⟩
 exact h
theorem Xp {f:FuncId} {args:List AV} {S:List Ent} {tk:List Nat} {n:Nat} {r:AV} {S':List Ent} {tk':List Nat} {n':Nat} (h:@extC prog E2 f args S tk n=some (r,S',tk',n')) :
  (f=7/\S'=S/\tk'=tk/\n'=n/\∃ l most,args.map w2=[Aj l,.prim (.int .i64 most)]/\r=fndA l most)\/((f == 7)=false/\@extC prog E1 f args S tk n=some (r,S',tk',n')):=by
 unfold extC at h
 split at h
 ·rename_i fv
  change fndX f args S tk n=_ at h
  unfold fndX at h
  split at h
  ·rename_i hf
   simp only [Option.map_eq_some_iff,Prod.mk.injEq] at h
   obtain ⟨x,hx,rfl,rfl,rfl,rfl⟩:=h
   exact .inl ⟨by simpa using hf,rfl,rfl,rfl,Ag3 hx⟩
  ·rename_i hf
   refine .inr ⟨by simpa using hf,?_⟩
   unfold extC
   exact (if_pos (show @Ext.on prog E1 f=true from fv)).trans h
 ·simp at h
theorem Agt {args:List AV} {l:List RowT} {most:Int} (ha:args.map w2=[Aj l,.prim (.int .i64 most)]) (S:List Ent) (tk:List Nat) (n:Nat):@extC prog E2 7 args S tk n=some (fndA l most,S,tk,n):=by
 show (if _ then fndX _ _ _ _ _ else none)=_
 simp [Ext.on,fndX,ha,Ag2]
theorem Abs {f:FuncId} (hf:(f == 7)=false) {args:List AV} {S:List Ent} {tk:List Nat} {n:Nat} : @extC prog E2 f args S tk n=@extC prog E1 f args S tk n:=by
 show (if _ then fndX _ _ _ _ _ else none)=(if _ then _ else none)
 unfold fndX
 rw [hf]
 rfl
theorem ext_mv2 (f:FuncId) (h:mvF0 f=false):@Ext.mv prog E2 f=false:=h
@[reducible] noncomputable instance E2i:Ext prog:=E2
instance ok2:Y3 prog:={
 ok:=fun f args S tk n r S' tk' n' h=>by
  rcases Xp h with ⟨rfl,rfl,rfl,rfl,l,most,ha,rfl⟩|⟨hf,hh⟩
  ·refine ⟨⟨_,func7,by decide +kernel,by decide +kernel⟩,fun C vs h1 h2 h3 hs hv=>?_⟩
   subst h1 h2 h3
   exact Aoz hs l most (by rw [<- ha]; exact Aa6 hv)
  ·exact ok1.ok f args S tk n r S' tk' n' hh
 indep:=fun M f args S tk n r S' tk' n' h=>by
  unfold Dq at h
  split at h
  ·rename_i hp
   rcases Xp h with ⟨rfl,rfl,rfl,rfl,l,most,ha,rfl⟩|⟨hf,hh⟩
   ·refine ⟨rfl,rfl,.inr ⟨rfl,fun S2 tk2 n2=>?_⟩⟩
    unfold Dq
    rw [if_pos hp]
    exact Agt ha S2 tk2 n2
   ·rcases Qe hh with ⟨rfl,hh⟩|⟨rfl,hh⟩
    ·obtain ⟨l,c,rfl,hlen,hc,rfl,rfl,rfl,rfl⟩:=V8 hh
     refine ⟨rfl,rfl,.inr ⟨rfl,fun S2 tk2 n2=>?_⟩⟩
     unfold Dq
     rw [if_pos hp,Abs hf,Abr]
     exact Ai5 hlen hc S2 tk2 n2
    ·obtain ⟨l,y,c,d,rfl,hq,rfl,rfl,rfl⟩:=Vw hh
     refine ⟨rfl,rfl,.inr ⟨rfl,fun S2 tk2 n2=>?_⟩⟩
     unfold Dq
     rw [if_pos hp,Abs hf,Abq]
     exact Amg hq S2 tk2 n2
  ·simp at h }
set_option linter.defProp false in
def ev2:=And.intro ext_mv2 ev0
section
variable (S:List Ent) (tk:List Nat) (k:Nat)
theorem H7 (l:List RowT) (c:Cap) (most:Int):cL prog 7 [.frz (l.map rowC) c,.int most] S tk k=some (fndA l most,S,tk,k):=by
 refine Abd rfl ?_
 show fndX _ _ _ _ _=_
 have h:[AV.frz (l.map rowC) c,AV.int most].map w2=[Aj l,.prim (.int .i64 most)]:=rfl
 simp [fndX,h,Ag2]
end
end
section
open Go Tryz
theorem vals2:(Db 2).map intC=[[.prim (.int .i64 0)],[.prim (.int .i64 1)],[.prim (.int .i64 (-1))],[.prim (.int .i64 2)],[.prim (.int .i64 (-2))]]:=rfl
def rw1:List RowT:=[([(nX,1)],-3,false),([(nX,-1)],2,false)]
def rw2:List RowT:=[([(nX,2)],-1,true)]
theorem fnd1:fndF rw1 4=some [(nX,2)]:=by decide +kernel
theorem fnd2:fndF rw2 4=none:=by decide +kernel
theorem fnd3:fndF [] 0=some []:=by decide +kernel
def pxy (x y:Int):Pt:=[(nX,x),(nY,y)]
theorem ord1:ordF (pxy 1 0) (pxy 1 1)=-1:=by decide +kernel
theorem ord2:ordF (pxy (-1) 0) (pxy 1 1)=1:=by decide +kernel
theorem ord3:ordF (pxy 2 0) (pxy (-1) 0)=1:=by decide +kernel
theorem ord4:ordF (pxy 1 0) [(nX,1)]=0:=by decide +kernel
theorem sat1:satF [([(nX,1),(nY,1)],-3,false)] (pxy 1 2)=true:=by decide +kernel
theorem sat2:satF [([(nX,1),(nY,1)],-3,true)] (pxy 1 1)=false:=by decide +kernel
theorem Z8 {x y:Int} (hx:i64 x) (hy:i64 y):PtI (pxy x y):=by
 intro c hc
 simp only [pxy,List.mem_cons,List.not_mem_nil,or_false] at hc
 rcases hc with rfl|rfl <;> assumption
theorem x_i {x:Int} (hx:i64 x):PtI [(nX,x)]:=by
 intro c hc
 simp only [List.mem_cons,List.not_mem_nil,or_false] at hc
 subst hc; exact hx
section
variable {S:List Ent} {tk:List Nat} {k:Nat} {A B:List (List AV)}
theorem ord_t:cL prog 18 [.frz A .unk,.frz B .tight] S tk k=cL prog 18 [.frz A .unk,.frz B .unk] S tk k:=Anb rfl rfl rfl
theorem sat_t:cL prog 20 [.frz A .tight,.frz B .unk] S tk k=cL prog 20 [.frz A .unk,.frz B .unk] S tk k:=Anb rfl rfl rfl
end
section
variable (S:List Ent) (tk:List Nat) (k:Nat)
set_option maxRecDepth 100000 in
set_option maxHeartbeats 2000000 in
theorem Aev:cL prog 6 [] S tk k=some (.bool true,S,tk,k):=by
 have i0:i64 0:=by simp [i64]
 have i1:i64 1:=by simp [i64]
 have i2:i64 2:=by simp [i64]
 have i3:i64 (-1):=by simp [i64]
 have hR1:=fun S tk k=>told2 (Uf S tk k 1 (-3) false rfl)
 have pz:=fun S tk k=>told2 (Uf S tk k (-1) 2 false rfl)
 have hR3:=fun S tk k=>told2 (Uf S tk k 2 (-1) true rfl)
 have hR4:=fun S tk k=>told2 (Aas S tk k 1 1 (-3) false rfl rfl)
 have hR5:=fun S tk k=>told2 (Aas S tk k 1 1 (-3) true rfl rfl)
 have hF1:∀ S tk k,cL prog 7 [.frz [rowC ([(nX,1)],-3,false),rowC ([(nX,-1)],2,false)] .tight,.int 4] S tk k=some (.tup [.frz [[.prim (.string ⟨#[120]⟩),.prim (.int .i64 2)]] .unk,.bool true],S,tk,k):=fun S tk k=>by
  have:=H7 S tk k rw1 .tight 4
  rw [fndA,fnd1] at this; exact this
 have hF2:∀ S tk k,cL prog 7 [.frz [rowC ([(nX,2)],-1,true)] .tight,.int 4] S tk k=some (.tup [.frz [] .unk,.bool false],S,tk,k):=fun S tk k=>by
  have:=H7 S tk k rw2 .tight 4
  rw [fndA,fnd2] at this; exact this
 have hF3:∀ S tk k,cL prog 7 [.frz [] .nilc,.int 0] S tk k=some (.tup [.frz [] .unk,.bool true],S,tk,k):=fun S tk k=>by
  have:=H7 S tk k [] .nilc 0
  rw [fndA,fnd3] at this; exact this
 have hV:=fun S tk k=>told2 (Mq S tk k 2)
 rw [vals2] at hV
 have hA1:∀ S tk k,cL prog 19 [.int 1,.int 0] S tk k=some (Aa (pxy 1 0),S,tk,k):=fun S tk k=>told2 (Wj S tk k 1 0)
 have te:∀ S tk k,cL prog 19 [.int 1,.int 1] S tk k=some (Aa (pxy 1 1),S,tk,k):=fun S tk k=>told2 (Wj S tk k 1 1)
 have hA3:∀ S tk k,cL prog 19 [.int (-1),.int 0] S tk k=some (Aa (pxy (-1) 0),S,tk,k):=fun S tk k=>told2 (Wj S tk k (-1) 0)
 have hA4:∀ S tk k,cL prog 19 [.int 2,.int 0] S tk k=some (Aa (pxy 2 0),S,tk,k):=fun S tk k=>told2 (Wj S tk k 2 0)
 have hA5:∀ S tk k,cL prog 19 [.int 1,.int 2] S tk k=some (Aa (pxy 1 2),S,tk,k):=fun S tk k=>told2 (Wj S tk k 1 2)
 have hO1:=fun S tk k=>told2 (Ha S tk k (pxy 1 0) (pxy 1 1) (by decide) (by decide) (Z8 i1 i0) (Z8 i1 i1))
 have hO2:=fun S tk k=>told2 (Ha S tk k (pxy (-1) 0) (pxy 1 1) (by decide) (by decide) (Z8 i3 i0) (Z8 i1 i1))
 have r9:=fun S tk k=>told2 (Ha S tk k (pxy 2 0) (pxy (-1) 0) (by decide) (by decide) (Z8 i2 i0) (Z8 i3 i0))
 have hO4:∀ S tk k,cL prog 18 [Aa (pxy 1 0),.frz [[.prim (.string ⟨#[120]⟩),.prim (.int .i64 1)]] .unk] S tk k=some (.int (ordF (pxy 1 0) [(nX,1)]),S,tk,k):=fun S tk k=>told2 (Ha S tk k (pxy 1 0) [(nX,1)] (by decide) (by decide) (Z8 i1 i0) (x_i i1))
 have gx:∀ S tk k,cL prog 20 [.frz [rowC ([(nX,1),(nY,1)],-3,false)] .unk,Aa (pxy 1 2)] S tk k=some (.bool (satF [([(nX,1),(nY,1)],-3,false)] (pxy 1 2)),S,tk,k):=fun S tk k=>told2 (Gg S tk k [([(nX,1),(nY,1)],-3,false)] (pxy 1 2) (by decide) (by intro r hr; simp only [List.mem_cons,List.not_mem_nil,or_false] at hr; subst hr; decide) (by decide))
 have lu:∀ S tk k,cL prog 20 [.frz [rowC ([(nX,1),(nY,1)],-3,true)] .unk,Aa (pxy 1 1)] S tk k=some (.bool (satF [([(nX,1),(nY,1)],-3,true)] (pxy 1 1)),S,tk,k):=fun S tk k=>told2 (Gg S tk k [([(nX,1),(nY,1)],-3,true)] (pxy 1 1) (by decide) (by intro r hr; simp only [List.mem_cons,List.not_mem_nil,or_false] at hr; subst hr; decide) (by decide))
 rw [ord1] at hO1
 rw [ord2] at hO2
 rw [ord3] at r9
 rw [ord4] at hO4
 rw [sat1] at gx
 rw [sat2] at lu
 generalize pxy 1 0=p10 at *
 generalize pxy 1 1=p11 at *
 generalize pxy (-1) 0=pm10 at *
 generalize pxy 2 0=p20 at *
 generalize pxy 1 2=p12 at *
 generalize ([(nX,(1:Int))],(-3:Int),false)=r1 at *
 generalize ([(nX,(-1:Int))],(2:Int),false)=r2 at *
 generalize ([(nX,(2:Int))],(-1:Int),true)=r3 at *
 generalize ([(nX,(1:Int)),(nY,(1:Int))],(-3:Int),false)=r4 at *
 generalize ([(nX,(1:Int)),(nY,(1:Int))],(-3:Int),true)=r5 at *
 simp only [rowC,Aa] at *
 have n1:(((1:Nat):Int) == 1)=true:=rfl
 have n0:(((0:Nat):Int) == 0)=true:=rfl
 have n5:(((5:Nat):Int) == 5)=true:=rfl
 have q1:intN (AV.prim (.int .i64 1))=some 1:=rfl
 have q2:intN (AV.prim (.int .i64 2))=some 2:=rfl
 have q4:intN (AV.prim (.int .i64 4))=some 4:=rfl
 have qs:sEq ⟨#[120]⟩ ⟨#[120]⟩=true:=by decide +kernel
 refine opP func6 ntmps6 (hp3:=rfl) ?_; simp only [List.append_eq,List.cons_append,List.nil_append]
 simp (maxSteps:=10^6)+contextual(disch:=try exact dqd)only[ev2,simprocAttr,AV.int,AV.bool,AV.str,results6,hR1,pz,hR3,hR4,hR5,hF1,hF2,hF3,hV,hA1,te,hA3,hA4,hA5,hO1,hO2,r9,hO4,gx,lu,ord_t,sat_t,n1,n0,n5,q1,q2,q4,qs]
 skip
end
theorem Ad5 {l:List RowT} (h:K8 l=true):l.length<=8/\∀ r ∈ l,r.1.length<=8:=by
 unfold K8 at h
 simp only [Bool.and_eq_true,decide_eq_true_eq,List.all_eq_true] at h
 exact h
theorem Z9 {l:List RowT} {most:Int} (h:Yo l most=true):K8 l=true:=by
 unfold Yo at h
 rw [Bool.and_eq_true] at h; exact h.1
theorem An0 {l:List RowT} {most:Int} {p:Pt} (h:fndF l most=some p):p.length<=6:=by
 obtain ⟨h1,-,h3,-⟩:=Agy h
 obtain ⟨-,-,-,h6⟩:=Acd h1
 have:=(Vg.1 h3).1
 rw [<- this,List.length_map] at h6; exact h6
section
variable (S:List Ent) (tk:List Nat) (k:Nat)
theorem Afh:cL prog 9 [.frz [] .unk,.frz [] .unk] S tk k=some (.bool true,S,tk,k):=by
 have h:=told2 (Aa0 S tk k [] [] (by simp))
 simp only [Aa,List.map_nil,decide_true] at h
 exact h
set_option maxRecDepth 100000 in
theorem Pr (l:List RowT) (most:Int):cL prog 3 [Aj l,.int most] S tk k=some (.bool true,S,tk,k):=by
 have hQ:=fun S tk k=>told2 (Aex S tk k l most)
 have hA:=fun S tk k=>Aev S tk k
 simp only [Aj] at hQ
 refine opP func3 ntmps3 (hp3:=rfl) ?_
 cases ju:Yo l most with
 | false =>
  rw [ju] at hQ
  simp (maxSteps:=10^6)+contextual(disch:=try exact dqd)only[ev2,simprocAttr,AV.int,AV.bool,AV.str,results3,Aj,hQ,hA]
 | true =>
 rw [ju] at hQ
 obtain ⟨g1,g2⟩:=Ad5 (Z9 ju)
 have hF:=fun S tk k=>H7 S tk k l .unk most
 have hR:=fun S tk k=>told2 (Ajn S tk k l most g1 g2)
 simp only [fndA,Aj,fndR] at hF hR
 cases hf:fndF l most with
 | none =>
  rw [hf] at hF hR
  have hS:=fun S tk k=>Afh S tk k
  simp only [Aa,Option.getD_none,Option.isSome_none,List.map_nil] at hF hR hS
  simp (maxSteps:=10^6)+contextual(disch:=try exact dqd)only[ev2,simprocAttr,AV.int,AV.bool,AV.str,results3,Aj,hQ,hF,hR,hS,hA]
 | some p =>
  rw [hf] at hF hR
  have hS:=fun S tk k=>told2 (Aa0 S tk k p p (by have:=An0 hf; omega))
  simp only [Aa,Option.getD_some,Option.isSome_some,decide_true] at hF hR hS
  simp (maxSteps:=10^6)+contextual(disch:=try exact dqd)only[ev2,simprocAttr,AV.int,AV.bool,AV.str,results3,Aj,hQ,hF,hR,hS,hA]
end
end
end Go.Proofs.YtcandeobhlfkbaaGreat
