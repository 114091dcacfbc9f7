/- WV11 WV12 WV13 WV14 V15 V17 Z0 Z1 Z2 Z3 Z4 Z5 Z6 Z7 T2 T3 T4 -/
import Derived.Test.YtcjffhadclngmaaGreatZC23
import Derived.Test.YtcjffhadclngmaaGreatZC16
import Derived.Test.YtcjffhadclngmaaGreatZC18
import Derived.Test.YtcjffhadclngmaaGreatZC15
import Derived.Test.YtcjffhadclngmaaGreatZC20
import Derived.Test.YtcjffhadclngmaaGreatZC21
namespace Go.Proofs.YtcjffhadclngmaaGreat
section
open Go Go.Proofs.Tryz
def L6 (iq eq:Nat) (n real:Nat) (rows cost basis flip:AV):List AV:=[.ifc 100 (.agg []),.int (n:Nat),.int (real:Nat),rows,cost,basis,flip]
theorem mk_W {W:Nat} (h:W<=1048576):mkA prog 54 (.int (W:Nat)) (.int (W:Nat))=some (W,4,(List.replicate W [.prim (.bool false),.frz [] .nilc,.prim (.bool false),.frz [] .nilc]).flatten):=by
 have hz:(A8 prog 54).bind (Aw prog)=some [.prim (.bool false),.frz [] .nilc,.prim (.bool false),.frz [] .nilc]:=by simp only [tys,Option.bind_some]
 have hs:(A8 prog 54).bind (szOf prog)=some 4:=by simp only [tys,Option.bind_some]
 obtain ⟨bb,hb,zq⟩:∃ bb,(A8 prog 54).bind (bytesOf prog)=some bb/\bb<=1048576:=⟨64,by kernel_rfl,by omega⟩
 unfold mkA
 rw [hz,hs,hb,intN_cast]
 simp only [mkB]
 rw [if_pos ⟨Nat.le_refl _,h,zq,rfl⟩]
def Aip (S:List Ent) (iq eq:Nat) (t':Tb) (r:Rs):Prop :=
 ∃ S' k' tk' I cc,r=(.ref I.it I.et 0,S',tk',k')/\S.length<=S'.length/\A2 S' iq eq I t' cc/\(∀ j,j<S.length->j≠iq->nth S' j=nth S j)/\(∀ j,j<S.length->j≠iq->OutW I iq j)
section
variable (S:List Ent) (tk:List Nat) (k iq eq:Nat)
set_option maxHeartbeats 20000000 in
set_option maxRecDepth 100000 in
theorem Ao5 (l:List RowT) (fl:Bool) (hl:l.length<=1000) (hn:(B8 l).length<=1000) (vars:List ByteArray) (jl:vars.length<=1000) (hv:∀ r ∈ l,∀ c ∈ r.1,c.1 ∈ vars) (hc:∀ r ∈ l,i64 r.2.1/\∀ c ∈ r.1,i64 c.2) (dd:fewC l) (k8:iq<S.length) (hf:FAw S iq eq fl) :
  ∃ r,cL prog 87 [.ifc 100 (.agg []),Au l,Am vars] S tk k=some r/\Aip S iq eq (Bj wF l vars fl) r:=by
 obtain ⟨Φ,hΦ⟩:∃ Φ,Φ=Aip S iq eq (Bj wF l vars fl):=⟨_,rfl⟩
 rw [<- hΦ]
 have hw2:IntKind.i64.wrap (2*(vars.length:Int))=((2*vars.length:Nat):Int):=by rw [Ad (by unfold i64; omega)]; rfl
 refine opM func87 ntmps87 ?_
 simp (maxSteps:=10^6)+contextual(disch:=try exact dqd)only[evg1,simprocAttr,AV.int,AV.bool,AV.str,results87,Au,Am,hw2]
 have a1p:∀ c,[AV.ifc 100 (.agg []),.int (vars.length:Nat),.int (c:Nat),.frz [] .nilc,.frz [] .nilc,.frz [] .nilc,.frz [] .nilc]=L6 iq eq vars.length c (.frz [] .nilc) (.frz [] .nilc) (.frz [] .nilc) (.frz [] .nilc):=fun _=>rfl
 refine Ef (P:=prog) (fun x st=>st.T.length=270/\(x.2.2<=l.length)/\(x.2.1+neqs (l.drop x.2.2)=2*vars.length+neqs l)/\getT st.T 0=.ifc 100 (.agg [])/\getT st.T 1=.frz (l.map rowC) .unk/\getT st.T 2=.frz (vars.map strC) .unk/\getT st.T 7=.ref S.length k 0/\getT st.T 32=.frz (l.map rowC) .unk/\getT st.T 33=.int (l.length:Nat)/\getT st.T 34=.int (x.2.2:Nat)/\st.S=S++[⟨k,L6 iq eq vars.length x.2.1 (.frz [] .nilc) (.frz [] .nilc) (.frz [] .nilc) (.frz [] .nilc)⟩]/\st.tk=tk/\st.n=x.1) (fun x=>l.length - x.2.2) ((k+1),(2*vars.length),0) ?_ ?_
 case refine_2=>exact ⟨rfl,Nat.zero_le _,rfl,rfl,rfl,rfl,rfl,rfl,rfl,rfl,rfl,rfl,rfl⟩
 rintro ⟨n1,c,q⟩ ⟨T,S',tk',n'⟩ ⟨hl,hq,hcn,e0,e1,e2,e7,e32,e33,e34,eS,eT,eN⟩ IH
 simp only at hq hcn e0 e1 e2 e7 e32 e33 e34 eS eT eN
 subst eS eT eN
 obtain ⟨g,hg,hT⟩:=Av hl
 rw [hg] at e0 e1 e2 e7 e32 e33 e34
 subst hT
 clear hg hl
 have y9:=Lx l
 have a06:∀ x y z:Ent,List.take (S++[x]).length (S++[y]++[z])=S++[y]:=fun x y z=>by
  have e:(S++[x]).length=(S++[y]).length:=by simp
  rw [e,List.take_left]
 by_cases hql:q<l.length
 ·have c1:decide ((q:Int)<(l.length:Int))=true:=by simpa using hql
  have hw:IntKind.i64.wrap ((q:Int)+1)=((q+1:Nat):Int):=by rw [Ad (by unfold i64; omega)]; rfl
  obtain ⟨r,hr⟩:=Ag hql
  have je:=H7 hr
  have sm:=Mn hr
  have pg:entAt (S++[⟨k,L6 iq eq vars.length c (.frz [] .nilc) (.frz [] .nilc) (.frz [] .nilc) (.frz [] .nilc)⟩]++[⟨n',rowC r⟩]) S.length k=some (L6 iq eq vars.length c (.frz [] .nilc) (.frz [] .nilc) (.frz [] .nilc) (.frz [] .nilc)):=Aa Bf
  cases he:r.2.2 with
  | true =>
   rw [he,if_pos rfl] at sm
   simp (maxSteps:=10^6)+contextual(disch:=try exact dqd)only[evg1,simprocAttr,AV.int,AV.bool,AV.str,results87,e0,e1,e2,e7,e32,e33,e34,c1,hw,je,rowC,An,he]
   exact IH (n'+1,c,q+1) _ (by first|omega|(simp only; omega)) ⟨rfl,by first|omega|(dsimp only; omega),by first|omega|(dsimp only; omega),by and_intros <;> first|rfl|simp only [getT,List.map_append,List.map_cons,List.map_nil]⟩
  | false =>
   rw [he,if_neg Bool.false_ne_true] at sm
   have hw3:IntKind.i64.wrap ((c:Int)+1)=((c+1:Nat):Int):=by rw [Ad (by unfold i64; omega)]; rfl
   simp (maxSteps:=10^6)+contextual(disch:=try exact dqd)only[evg1,simprocAttr,AV.int,AV.bool,AV.str,results87,e0,e1,e2,e7,e32,e33,e34,c1,hw,hw3,je,rowC,An,he,L6,a06]
   exact IH (n'+1,c+1,q+1) _ (by first|omega|(simp only; omega)) ⟨rfl,by first|omega|(dsimp only; omega),by first|omega|(dsimp only; omega),by and_intros <;> first|rfl|simp only [getT,List.map_append,List.map_cons,List.map_nil]⟩
 ·have c1:decide ((q:Int)<(l.length:Int))=false:=by simpa using hql
  have tf:c=2*vars.length+neqs l:=by
   have h0:l.drop q=[]:=List.drop_eq_nil_of_le (by omega)
   rw [h0] at hcn
   have za:neqs ([]:List RowT)=0:=rfl
   omega
  obtain ⟨W,uw⟩:∃ W,W=c+l.length+1:=⟨_,rfl⟩
  have a07:IntKind.i64.wrap ((c:Int)+(l.length:Int))=((c+l.length:Nat):Int):=by rw [Ad (by unfold i64; omega)]; rfl
  have a08:IntKind.i64.wrap (((c+l.length:Nat):Int)+1)=(W:Int):=by rw [Ad (by unfold i64; omega)]; omega
  obtain ⟨z,hz⟩:∃ z,z=wF.whole 0:=⟨_,rfl⟩
  have oz:wF.ok z.1:=by rw [hz]; exact En 0 (by unfold i64; omega)
  obtain ⟨T0,ag⟩:∃ T0:Ent,T0=⟨k,L6 iq eq vars.length c (.frz [] .nilc) (.frz [] .nilc) (.frz [] .nilc) (.frz [] .nilc)⟩:=⟨_,rfl⟩
  have np:=Kd (S++[⟨k,L6 iq eq vars.length c (.frz [] .nilc) (.frz [] .nilc) (.frz [] .nilc) (.frz [] .nilc)⟩]) tk' n' iq eq fl 0 (by unfold i64; omega) hf.app
  rw [<- hz,Ha hf] at np
  obtain ⟨S1,cj⟩:∃ S1,S1=flW S iq eq z.2:=⟨_,rfl⟩
  have mn:FAw S1 iq eq (Bool.or fl z.2):=by rw [cj]; exact hf.fS
  have hl1:S1.length=S.length:=by rw [cj]; exact Bq
  have bl:∀ v,v≠iq->nth S1 v=nth S v:=fun v hv=>by rw [cj]; exact Bi hv
  rw [<- cj] at np
  obtain ⟨nz,zi⟩:∃ nz,nz=n'+0:=⟨_,rfl⟩
  rw [<- zi] at np
  have ro:entAt (S1++[⟨k,L6 iq eq vars.length c (.frz [] .nilc) (.frz [] .nilc) (.frz [] .nilc) (.frz [] .nilc)⟩]++[⟨nz,ceW z.1⟩]++[⟨nz+1,(List.replicate W [.prim (.bool false),.frz [] .nilc,.prim (.bool false),.frz [] .nilc]).flatten⟩]) S.length k=some (L6 iq eq vars.length c (.frz [] .nilc) (.frz [] .nilc) (.frz [] .nilc) (.frz [] .nilc)):=Aa (Aa (Ai hl1))
  have zt:∀ e e' a b:Ent,put (S1++[e]++[a]++[b]) S.length e'=S1++[e']++[a]++[b]:=fun e e' a b=>by
   rw [Dd (by simp; omega),Dd (by simp; omega),De hl1]
  have kv:=mk_W (W:=W) (by omega)
  have hE3:=fun cs a b=>Aa (L:=[b]) (Aa (L:=[a]) (Ai (k:=k) (cs:=cs) hl1))
  simp only [L6] at np ro
  simp (maxSteps:=10^6)+contextual(disch:=try exact dqd)only[evg1,simprocAttr,AV.int,AV.bool,AV.str,results87,e0,e1,e2,e7,e32,e33,e34,c1,hw2,a07,a08,np,kv,ro,hE3,zt,hl1,L6,Et,xfs,puW,Ap,A9,ovW]
  obtain ⟨TP,zu⟩:∃ TP,TP=L6 iq eq vars.length c (.frz [] .nilc) (.sref (S.length+2) (nz+1) 0 W 4) (.frz [] .nilc) (.frz [] .nilc):=⟨_,rfl⟩
  obtain ⟨S2,a8⟩:∃ S2,S2=S1++[⟨k,TP⟩]++[⟨nz,ceW z.1⟩]:=⟨_,rfl⟩
  have hl2:S2.length=S.length+2:=by rw [a8]; simp [hl1]
  have ar:entAt S2 S.length k=some TP:=by rw [a8]; exact Aa (Ai hl1)
  have hZ2:entAt S2 (S.length+1) nz=some (ceW z.1):=by rw [a8]; exact Ai (by simp [hl1])
  have b8:FAw S2 iq eq (Bool.or fl z.2):=by rw [a8]; exact mn.app.app
  have a7:∀ j,j<S.length->j≠iq->nth S2 j=nth S j:=fun j h1 h2=>by rw [a8,A6 (by simp; omega),A6 (by omega),bl j h2]
  have a2z:[AV.ifc 100 (.agg []),.int (vars.length:Nat),.int (c:Nat),.frz [] .nilc,.sref (S.length+2) (nz+1) 0 W 4,.frz [] .nilc,.frz [] .nilc]=TP:=zu.symm
  have uc:∀ x:Ent,(S1++[x]).length=S.length+1:=fun x=>by simp [hl1]
  have hLb:∀ x y:Ent,(S1++[x]++[y]).length=S.length+2:=fun x y=>by simp [hl1]
  rw [hLb,uc]
  have sn:=a8
  rw [zu] at sn
  simp only [L6] at sn
  rw [<- sn]
  obtain ⟨Fl,hFl⟩:∃ Fl:Nat->List AV,Fl=fun j=>(List.replicate j (ceW z.1)++List.replicate (W - j) ([.prim (.bool false),.frz [] .nilc,.prim (.bool false),.frz [] .nilc]:List AV)).flatten:=⟨_,rfl⟩
  have hF0:Fl 0=(List.replicate W ([.prim (.bool false),.frz [] .nilc,.prim (.bool false),.frz [] .nilc]:List AV)).flatten:=by rw [hFl]; rfl
  have hFW:Fl W=flat ceW (List.replicate W z.1):=by rw [hFl]; simp only [Nat.sub_self,List.replicate_zero,List.append_nil]; exact Vo
  have hFo:∀ j,j<W->over (Fl j) (j*4) (ceW z.1)=some (Fl (j+1)):=fun j jy=>by rw [hFl]; exact Qf (sz:=4) (a:=ceW z.1) (z:=([.prim (.bool false),.frz [] .nilc,.prim (.bool false),.frz [] .nilc]:List AV)) jy (Ap _) rfl
  rw [<- hF0]
  refine Ef (P:=prog) (fun x st=>st.T.length=270/\(x.2<=W)/\getT st.T 0=.ifc 100 (.agg [])/\getT st.T 1=.frz (l.map rowC) .unk/\getT st.T 2=.frz (vars.map strC) .unk/\getT st.T 7=.ref S.length k 0/\getT st.T 10=.int ((2*vars.length:Nat):Int)/\getT st.T 11=.int (W:Nat)/\getT st.T 12=.ref (S.length+1) nz 0/\getT st.T 71=.int (W:Nat)/\getT st.T 72=.int (x.2:Nat)/\st.S=S2++[⟨nz+1,Fl x.2⟩]/\st.tk=tk'/\st.n=x.1) (fun x=>W - x.2) ((nz+2),0) ?_ ?_
  case refine_2=>exact ⟨rfl,Nat.zero_le _,rfl,rfl,rfl,rfl,rfl,rfl,rfl,rfl,rfl,rfl,rfl,rfl⟩
  rintro ⟨n1,j⟩ ⟨T,S',tk',n'⟩ ⟨hl,hj,e0,e1,e2,e7,e10,e11,e12,e71,e72,eS,eT,eN⟩ IH
  simp only at hj e0 e1 e2 e7 e10 e11 e12 e71 e72 eS eT eN
  subst eS eT eN
  obtain ⟨g,hg,hT⟩:=Av hl
  rw [hg] at e0 e1 e2 e7 e10 e11 e12 e71 e72
  subst hT
  clear hg hl
  have u5:∀ cs,entAt (S2++[⟨nz+1,cs⟩]) (S.length+2) (nz+1)=some cs:=fun cs=>Ai hl2
  have x9:=fun e e'=>De (e:=e) (e':=e') hl2
  have o5:∀ x y:Ent,List.take (S2++[x]).length (S2++[y])=S2++[y]:=fun x y=>by
   have e:(S2++[x]).length=(S2++[y]).length:=by simp
   rw [e,List.take_length]
  by_cases jy:j<W
  ·have c2:decide ((j:Int)<(W:Int))=true:=by simpa using jy
   have hw:IntKind.i64.wrap ((j:Int)+1)=((j+1:Nat):Int):=by rw [Ad (by unfold i64; omega)]; rfl
   have kt:=hFo j jy
   have py:∀ e:Ent,entAt (S2++[e]) S.length k=some TP:=fun e=>Aa ar
   have pz:∀ e:Ent,entAt (S2++[e]) (S.length+1) nz=some (ceW z.1):=fun e=>Aa hZ2
   rw [zu] at py
   simp only [L6] at py
   simp (maxSteps:=10^6)+contextual(disch:=try exact dqd)only[evg1,simprocAttr,AV.int,AV.bool,AV.str,results87,e0,e1,e2,e7,e10,e11,e12,e71,e72,c2,hw,jy,kt,py,pz,u5,x9,o5,puW,tkW,Ap,A9]
   exact IH (n',j+1) _ (by first|omega|(simp only; omega)) ⟨rfl,by first|omega|(dsimp only; omega),by and_intros <;> first|rfl|simp only [getT,List.map_append,List.map_cons,List.map_nil]⟩
  ·have c2:decide ((j:Int)<(W:Int))=false:=by simpa using jy
   have mb:j=W:=by omega
   rw [mb] at c2 e72 ⊢
   clear jy mb hj
   rw [hFW]
   obtain ⟨S3,da⟩:∃ S3,S3=S2++[⟨nz+1,flat ceW (List.replicate W z.1)⟩]:=⟨_,rfl⟩
   have dx:S3.length=S.length+3:=by rw [da]; simp [hl2]
   have b6:∀ j,j<S.length->j≠iq->nth S3 j=nth S j:=fun j h1 h2=>by rw [da,A6 (by omega),a7 j h1 h2]
   have hZ3:entAt S3 (S.length+1) nz=some (ceW z.1):=by rw [da]; exact Aa hZ2
   obtain ⟨t0,ul⟩:∃ t0:Tb,t0={ vars:=vars.length,real:=c,rows:=[],cost:=List.replicate W z.1,basis:=[],flip:=[],fl:=Bool.or fl z.2 }:=⟨_,rfl⟩
   obtain ⟨I0,hI0⟩:∃ I0:TI,I0=⟨S.length,k,S.length+3,0,S.length+2,nz+1,S.length+4,0,[]⟩:=⟨_,rfl⟩
   have co:A2 S3 iq eq I0 t0 .nilc:=by
    rw [hI0,ul,da]
    refine ⟨?_,rfl,fun h=>absurd rfl h,fun i p r h=>by simp [nth] at h,fun r h=>by simp at h,?_,fun h=>absurd rfl h,rfl,rfl,b8.app,?_,fun r h=>by simp at h,fun q hq=>?_,?_,by simp,?_,fun b h=>by simp at h⟩
    ·rw [Aa ar,zu]
     simp only [L6,cw,List.length_replicate,List.length_nil,List.map_nil]
     rfl
    ·exact Ai hl2
    ·constructor <;> first|(simp only; omega)|(intro p hp; simp at hp)|(intro i j p q hp; simp [nth] at hp)
    ·rw [List.mem_replicate] at hq; rw [hq.2]; exact oz
    ·simp only [List.length_replicate]; omega
    ·simp only [List.length_replicate]; omega
   have a09:Bj wF l vars fl=begS wF z.1 vars c W l 0 (2*vars.length) t0:=by
    unfold Bj
    simp only
    rw [<- tf,<- uw,<- hz,ul]
   simp (maxSteps:=10^6)+contextual(disch:=try exact dqd)only[evg1,simprocAttr,AV.int,AV.bool,AV.str,results87,e0,e1,e2,e7,e10,e11,e12,e71,e72,c2]
   rw [<- da]
   clear u5 x9 o5 e0 e1 e2 e7 e10 e11 e12 e71 e72 c1 c2
   refine Ef (P:=prog) (fun x st=>st.T.length=270/\(x.2.2.2.2.1<=l.length)/\(Bj wF l vars fl=begS wF z.1 vars c W (l.drop x.2.2.2.2.1) x.2.2.2.2.1 x.2.2.2.2.2.1 x.2.2.2.2.2.2.1)/\(A2 x.1 iq eq x.2.2.2.2.2.2.2 x.2.2.2.2.2.2.1 x.2.2.2.1)/\(x.2.2.2.2.2.2.1.rows.length=x.2.2.2.2.1)/\(x.2.2.2.2.2.2.1.cost.length=W)/\(x.2.2.2.2.2.2.1.real=c)/\(x.2.2.2.2.2.2.1.vars=vars.length)/\(x.2.2.2.2.2.1+neqs (l.drop x.2.2.2.2.1)=c)/\(Be x.2.2.1 x.2.2.2.1 1=true)/\(entAt x.1 (S.length+1) nz=some (ceW z.1))/\(S.length+3<=x.1.length)/\(∀ j,j<S.length->j≠iq->nth x.1 j=nth S j)/\(x.2.2.2.2.2.2.2.it=S.length/\x.2.2.2.2.2.2.2.et=k/\x.2.2.2.2.2.2.2.ic=S.length+2)/\(S.length+2<x.2.2.2.2.2.2.2.ir/\S.length+2<x.2.2.2.2.2.2.2.ib/\∀ p ∈ x.2.2.2.2.2.2.2.ids,S.length+2<p.1)/\getT st.T 0=.ifc 100 (.agg [])/\getT st.T 1=.frz (l.map rowC) .unk/\getT st.T 2=.frz (vars.map strC) .unk/\getT st.T 7=.ref S.length k 0/\getT st.T 10=.int (x.2.2.2.2.2.1:Nat)/\getT st.T 11=.int (W:Nat)/\getT st.T 12=.ref (S.length+1) nz 0/\getT st.T 83=.frz (l.map rowC) .unk/\getT st.T 84=.int (l.length:Nat)/\getT st.T 85=.int (x.2.2.2.2.1:Nat)/\st.S=x.1/\st.tk=x.2.2.1/\st.n=x.2.1) (fun x=>l.length - x.2.2.2.2.1) (S3,n',tk',Cap.nilc,0,(2*vars.length),t0,I0) ?_ ?_
   case refine_2=>exact ⟨rfl,Nat.zero_le _,a09,co,by rw [ul]; rfl,by rw [ul]; simp,by rw [ul],by rw [ul],by rw [tf]; rfl,rfl,hZ3,Nat.le_of_eq dx.symm,b6,by rw [hI0]; exact ⟨rfl,rfl,rfl⟩,by rw [hI0]; exact ⟨by simp only; omega,by simp only; omega,fun p hp=>by simp at hp⟩,rfl,rfl,rfl,rfl,rfl,rfl,rfl,rfl,rfl,rfl,rfl,rfl,rfl⟩
   rintro ⟨SS,n1,tk1,cp,i,sl,t1,I⟩ ⟨T,S',tk',n'⟩ ⟨hl,hi,hR,hT,f9,hcl,dk,i9,mw,ab,hZ,hL3,aw,ba,ja,e0,e1,e2,e7,e10,e11,e12,e83,e84,e85,eS,eT,eN⟩ IH
   simp only at hi hR hT f9 hcl dk i9 mw ab hZ hL3 aw ba ja e0 e1 e2 e7 e10 e11 e12 e83 e84 e85 eS eT eN
   subst eS eT eN
   obtain ⟨g,hg,hT⟩:=Av hl
   rw [hg] at e0 e1 e2 e7 e10 e11 e12 e83 e84 e85
   subst hT
   clear hg hl
   have IHA:=IH
   clear IH
   obtain ⟨m0,bm⟩:∃ m0,m0=n':=⟨_,rfl⟩
   subst bm
   obtain ⟨SA,hSA⟩:∃ SA,SA=S':=⟨_,rfl⟩
   subst hSA
   obtain ⟨tkA,a1a⟩:∃ tkA,tkA=tk':=⟨_,rfl⟩
   subst a1a
   obtain ⟨L,hL⟩:∃ L,L=SA.length:=⟨_,rfl⟩
   by_cases bg:i<l.length
   ·have c1:decide ((i:Int)<(l.length:Int))=true:=by simpa using bg
    have hwi:IntKind.i64.wrap ((i:Int)+1)=((i+1:Nat):Int):=by rw [Ad (by unfold i64; omega)]; rfl
    obtain ⟨r,hr⟩:=Ag bg
    have je:=H7 hr
    have ui:r ∈ l:=Al hr
    have uc:∀ x:Ent,(SA++[x]).length=L+1:=fun x=>by simp [hL]
    have back:∀ st,Aef S l vars fl k iq eq c W nz z.1 (i+1) st->Gd finM Φ (KA prog Tryz.f87 18 [] st):=fun st h=>by
     obtain ⟨sl',t1',I',cp',h1,h2,h3,h4,h5,h6,h7,h8,h9,yq,h11,h12,h13,h14,ya,s0,s1,s2,s7,s10,s11,s12,s83,s84,s85⟩:=h
     exact Ade rfl (t:=.mk) (IHA (st.S,st.n,st.tk,cp',i+1,sl',t1',I') st (by show l.length - (i+1)<l.length - i; omega) ⟨ya,h1,h2,h3,h4,h5,h6,h7,h8,h9,yq,h11,h12,h13,h14,s0,s1,s2,s7,s10,s11,s12,s83,s84,s85,rfl,rfl,rfl⟩)
    clear IHA
    simp (maxSteps:=10^6)+contextual(disch:=try exact dqd)only[evg1,simprocAttr,AV.int,AV.bool,AV.str,results87,e0,e1,e2,e7,e10,e11,e12,e83,e84,e85,c1,je,rowC,An,kv,Nat.le_refl]
    rw [uc,<- hL,<- hF0]
    obtain ⟨SB,p9⟩:∃ SB,SB=SA++[(⟨m0,rowC r⟩:Ent)]:=⟨_,rfl⟩
    have yn:SB.length=L+1:=by rw [p9]; exact uc _
    have su:=p9
    simp only [rowC,An] at su
    rw [<- su]
    refine Ef (P:=prog) (fun x st=>st.T.length=270/\(x.2<=W)/\getT st.T 0=.ifc 100 (.agg [])/\getT st.T 1=.frz (l.map rowC) .unk/\getT st.T 2=.frz (vars.map strC) .unk/\getT st.T 7=.ref S.length k 0/\getT st.T 10=.int (sl:Nat)/\getT st.T 11=.int (W:Nat)/\getT st.T 12=.ref (S.length+1) nz 0/\getT st.T 14=.int (i:Nat)/\getT st.T 15=.ref L m0 0/\getT st.T 16=.sref (L+1) (m0+1) 0 W 4/\getT st.T 83=.frz (l.map rowC) .unk/\getT st.T 84=.int (l.length:Nat)/\getT st.T 85=.int (i:Nat)/\getT st.T 93=.int (W:Nat)/\getT st.T 94=.int (x.2:Nat)/\st.S=SB++[⟨m0+1,Fl x.2⟩]/\st.tk=tkA/\st.n=x.1) (fun x=>W - x.2) ((m0+2),0) ?_ ?_
    case refine_2=>exact ⟨rfl,Nat.zero_le _,rfl,rfl,rfl,rfl,rfl,rfl,rfl,rfl,rfl,rfl,rfl,rfl,rfl,rfl,rfl,rfl,rfl,rfl⟩
    rintro ⟨n1,j⟩ ⟨T,S',tk',n'⟩ ⟨hl,hj,e0,e1,e2,e7,e10,e11,e12,e14,e15,e16,e83,e84,e85,e93,e94,eS,eT,eN⟩ IH
    simp only at hj e0 e1 e2 e7 e10 e11 e12 e14 e15 e16 e83 e84 e85 e93 e94 eS eT eN
    subst eS eT eN
    obtain ⟨g,hg,hT⟩:=Av hl
    rw [hg] at e0 e1 e2 e7 e10 e11 e12 e14 e15 e16 e83 e84 e85 e93 e94
    subst hT
    clear hg hl
    by_cases jy:j<W
    ·have c2:decide ((j:Int)<(W:Int))=true:=by simpa using jy
     have hw:IntKind.i64.wrap ((j:Int)+1)=((j+1:Nat):Int):=by rw [Ad (by unfold i64; omega)]; rfl
     have kt:=hFo j jy
     have pz:∀ b:Ent,entAt (SB++[b]) (S.length+1) nz=some (ceW z.1):=fun b=>by rw [p9]; exact Aa (Aa hZ)
     have u5:∀ cs,entAt (SB++[⟨m0+1,cs⟩]) (L+1) (m0+1)=some cs:=fun cs=>Ai yn
     have x9:=fun e e'=>De (e:=e) (e':=e') yn
     have o5:∀ x y:Ent,List.take (SB++[x]).length (SB++[y])=SB++[y]:=fun x y=>by
      have e:(SB++[x]).length=(SB++[y]).length:=by simp
      rw [e,List.take_length]
     simp (maxSteps:=10^6)+contextual(disch:=try exact dqd)only[evg1,simprocAttr,AV.int,AV.bool,AV.str,results87,e0,e1,e2,e7,e10,e11,e12,e14,e15,e16,e83,e84,e85,e93,e94,c2,hw,jy,kt,pz,u5,x9,o5,puW,tkW,Ap,A9]
     exact IH (n',j+1) _ (by first|omega|(simp only; omega)) ⟨rfl,by first|omega|(dsimp only; omega),by and_intros <;> first|rfl|simp only [getT,List.map_append,List.map_cons,List.map_nil]⟩
    ·have c2:decide ((j:Int)<(W:Int))=false:=by simpa using jy
     have mb:j=W:=by omega
     rw [mb] at c2 e94 ⊢
     clear jy mb hj
     rw [hFW]
     obtain ⟨n5,hn5⟩:∃ n5,n5=n':=⟨_,rfl⟩
     subst hn5
     obtain ⟨SC,qa⟩:∃ SC,SC=SB++[(⟨m0+1,flat ceW (List.replicate W z.1)⟩:Ent)]:=⟨_,rfl⟩
     rw [<- qa]
     have hlC:SC.length=L+2:=by rw [qa]; simp [yn]
     have yb:A2 SC iq eq I t1 cp:=by rw [qa,p9]; exact (hT.app _).app _
     have az:LowW I iq L t1:=by rw [hL]; exact hT.low
     have mc:entAt SC L m0=some (rowC r):=by rw [qa,p9]; exact Aa (Ai hL.symm)
     have sv:entAt SC (L+1) (m0+1)=some (flat ceW (List.replicate W z.1)):=by rw [qa]; exact Ai yn
     have hZC:entAt SC (S.length+1) nz=some (ceW z.1):=by rw [qa,p9]; exact Aa (Aa hZ)
     have hfC:∀ j,j<S.length->j≠iq->nth SC j=nth S j:=fun j h1 h2=>by rw [qa,p9,A6 (by simp; omega),A6 (by omega),aw j h1 h2]
     have lx:i64 r.2.1:=(hc r ui).1
     obtain ⟨one,bz⟩:∃ one,one=wF.whole 1:=⟨_,rfl⟩
     have o1:wF.ok one.1:=by rw [bz]; exact En 1 (by unfold i64; omega)
     have c8:=Kd SC tk' n5 iq eq t1.fl 1 (by unfold i64; omega) yb.fa
     rw [<- bz] at c8
     obtain ⟨SD,un⟩:∃ SD,SD=flW SC iq eq one.2:=⟨_,rfl⟩
     have md:SD.length=L+2:=by rw [un,Bq]; exact hlC
     have sw:∀ v,v≠iq->nth SD v=nth SC v:=fun v hv=>by rw [un]; exact Bi hv
     have yc:FAw SD iq eq (Bool.or t1.fl one.2):=by rw [un]; exact yb.fa.fS
     rw [<- un] at c8
     obtain ⟨nu,hnu⟩:∃ nu,nu=n5+0:=⟨_,rfl⟩
     rw [<- hnu] at c8
     have hTD:A2 SD iq eq I { t1 with fl:=Bool.or t1.fl one.2 } cp:=yb.flag sw yc
     have hLd:SD.length=L+2:=md
     have me:Gf S (SD++[⟨nu,ceW one.1⟩]) iq eq I { t1 with fl:=Bool.or t1.fl one.2 } cp L nz m0 (m0+1) nu z.1 r (List.replicate W z.1) one.1 :=
      ⟨hTD.app _,az.of fun h=>h,by rw [Aa (e:=nz) (by rw [Ab (sw _ (by omega))]; exact hZC)],by rw [Aa (by rw [Ab (sw _ (by omega))]; exact mc)],by rw [Aa (by rw [Ab (sw _ (by omega))]; exact sv)],Ai md,by simp [md],fun j h1 h2=>by rw [A6 (by omega),sw j h2]; exact hfC j h1 h2,k8,by omega,ba.2.2⟩
     have ge:=me.E15
     have qd:=me.E19
     have lp:(SD++[(⟨nu,ceW one.1⟩:Ent)]).length=L+3:=me.len
     have hLD:∀ x:Ent,(SD++[x]).length=L+3:=fun x=>by simp [md]
     simp only [rowC] at ge
     have yd:∀ cs,entAt (SD++[⟨nu,cs⟩]) (L+2) nu=some cs:=fun cs=>Ai md
     have pw:=fun e e'=>De (e:=e) (e':=e') md
     clear qa p9 su
     cases jh:D2 r
     ·have c3:decide (0<r.2.1)=false:=jh
      have hU:Jr wF (D2 r)=one:=by rw [jh,bz]; rfl
      simp (maxSteps:=10^6)+contextual(disch:=try exact dqd)only[evg1,simprocAttr,AV.int,AV.bool,AV.str,results87,e0,e1,e2,e7,e10,e11,e12,e14,e15,e16,e83,e84,e85,e93,e94,c2,c3,mc,rowC,An,c8,ge,yd,pw,md,Et,xfs,puW,Ap,A9,ovW]
      clear e0 e1 e2 e7 e10 e11 e12 e14 e15 e16 e83 e84 e85 e93 e94 c2 c3 IH pw yd
      obtain ⟨SX,sx⟩:∃ SX,SX=SD++[(⟨nu,ceW one.1⟩:Ent)]:=⟨_,rfl⟩
      obtain ⟨nx,t7⟩:∃ nx,nx=nu+1:=⟨_,rfl⟩
      rw [<- sx,<- t7]
      rw [<- sx] at me
      obtain ⟨u,hu⟩:∃ u:Q × Bool,u=one:=⟨_,rfl⟩
      rw [<- hu] at me hU
      have ou:wF.ok u.1:=by rw [hu]; exact o1
      have gb:=me
      clear me ge qd lp hLD hnu hTD hLd yc sw md c8 un sx t7 sv mc hZC hfC yb hlC hu o1 bz
      have h18:AV.prim (.bool false)=.prim (.bool (D2 r)):=by rw [jh]
      exact Ph rfl (Anx S l vars fl k iq eq c W nz z.1 ⟨hl,jl,hv,hc,dd,k8,tf,uw⟩ oz Φ i bg r hr sl mw t1 I cp tk' f9 hcl dk i9 ab ba ja L m0 nu u hU ou SX nx _ gb hR back _ rfl rfl rfl rfl rfl rfl rfl rfl rfl rfl rfl h18 rfl rfl rfl rfl rfl rfl rfl)
     ·have c3:decide (0<r.2.1)=true:=jh
      obtain ⟨neg,hneg⟩:∃ neg,neg=wF.whole (-1):=⟨_,rfl⟩
      have on:wF.ok neg.1:=by rw [hneg]; exact En (-1) (by unfold i64; omega)
      have hU:Jr wF (D2 r)=(neg.1,Bool.or one.2 neg.2):=by rw [jh,bz,hneg]; rfl
      have hw1:=Kd (SD++[⟨nu,ceW one.1⟩]) tk' (nu+1) iq eq (Bool.or t1.fl one.2) (-1) (by unfold i64; omega) me.T.fa
      rw [<- hneg,Ha yc] at hw1
      obtain ⟨SE,zw⟩:∃ SE,SE=flW SD iq eq neg.2:=⟨_,rfl⟩
      have lp:SE.length=L+2:=by rw [zw,Bq]; exact md
      have hRE:=me.flag (S':=flW (SD++[⟨nu,ceW one.1⟩]) iq eq neg.2) (fun j hj=>Bi hj) Bq me.T.fa.fS
      rw [Ha yc,<- zw] at hRE
      rw [<- zw] at hw1
      have ye:=hRE.unit neg.1
      have mf:∀ cs,entAt (SE++[⟨nu,cs⟩]) (L+2) nu=some cs:=fun cs=>Ai lp
      have qe:=fun e e'=>De (e:=e) (e':=e') lp
      rw [qe] at ye
      have mg:=ye.E15
      simp only [rowC] at mg
      simp (maxSteps:=10^6)+contextual(disch:=try exact dqd)only[evg1,simprocAttr,AV.int,AV.bool,AV.str,results87,e0,e1,e2,e7,e10,e11,e12,e14,e15,e16,e83,e84,e85,e93,e94,c2,c3,mc,rowC,An,c8,ge,yd,pw,md,hw1,mf,qe,mg,Et,xfs,puW,Ap,A9,ovW,ovW2]
      clear e0 e1 e2 e7 e10 e11 e12 e14 e15 e16 e83 e84 e85 e93 e94 c2 c3 IH pw yd qe mf
      obtain ⟨SX,sx⟩:∃ SX,SX=SE++[(⟨nu,ceW neg.1⟩:Ent)]:=⟨_,rfl⟩
      obtain ⟨nx,t7⟩:∃ nx,nx=nu+1+0:=⟨_,rfl⟩
      rw [<- sx,<- t7]
      rw [<- sx] at ye
      obtain ⟨u,hu⟩:∃ u:Q × Bool,u=(neg.1,Bool.or one.2 neg.2):=⟨_,rfl⟩
      rw [<- hu] at hU
      have ou:wF.ok u.1:=by rw [hu]; exact on
      have gb:Gf S SX iq eq I { t1 with fl:=Bool.or t1.fl u.2 } cp L nz m0 (m0+1) nu z.1 r (List.replicate W z.1) u.1:=by
       rw [hu]
       simp only [<- Bool.or_assoc]
       exact ye
      clear me ge qd lp hLD hnu hTD hLd yc sw md c8 un sx t7 sv mc hZC hfC yb hlC hu o1 bz on hneg hw1 zw hRE ye mg
      have h18:AV.prim (.bool true)=.prim (.bool (D2 r)):=by rw [jh]
      exact Ph rfl (Anx S l vars fl k iq eq c W nz z.1 ⟨hl,jl,hv,hc,dd,k8,tf,uw⟩ oz Φ i bg r hr sl mw t1 I cp tk' f9 hcl dk i9 ab ba ja L m0 nu u hU ou SX nx _ gb hR back _ rfl rfl rfl rfl rfl rfl rfl rfl rfl rfl rfl h18 rfl rfl rfl rfl rfl rfl rfl)
   ·have c1:decide ((i:Int)<(l.length:Int))=false:=by simpa using bg
    have h0:l.drop i=[]:=List.drop_eq_nil_of_le (by omega)
    rw [h0] at hR
    simp only [begS] at hR
    simp (maxSteps:=10^6)+contextual(disch:=try exact dqd)only[evg1,simprocAttr,AV.int,AV.bool,AV.str,results87,e0,e1,e2,e7,e10,e11,e12,e83,e84,e85,c1]
    rw [hΦ,hR]
    exact ⟨SA,m0,tkA,I,cp,by rw [ba.1,ba.2.1],by omega,hT,aw,fun j h1 h2=>⟨h2,by omega,by omega,fun p hp=>by have:=ja.2.2 p hp; omega⟩⟩
end
end
section
open Go
def ceW0W:List AV:=[.prim (.bool false),.frz [] .nilc,.prim (.bool false),.frz [] .nilc]
structure Af1 (S SS:List Ent) (iq eq:Nat) (I:TI) (t:Tb) (cc:Cap) (k n8:Nat) (z:Q) (cf:AV) (n:Int):Prop where
 T:A2 SS iq eq I t cc
 E4:entAt SS S.length k=some [cf,.prim (.int .i64 n)]
 E6:entAt SS (S.length+1) (k+1)=some ceW0W
 E8:entAt SS (S.length+2) n8=some (ceW z)
 len:SS.length=S.length+3
 fr:∀ j,j<S.length->OutW I iq j->nth SS j=nth S j
theorem Anp {S:List Ent} {iq eq:Nat} {I:TI} {t:Tb} {cc:Cap} (hT:A2 S iq eq I t cc) (k8:iq<S.length) (hib:I.ib<S.length\/S.length+10<I.ib) (d:Nat) (hd:d<=10):OutW I iq (S.length+d):=by
 have h:=hT.low
 have:=h.ic
 exact ⟨by omega,by omega,by omega,fun p hp=>by have:=h.row p hp; omega⟩
theorem Af1.step {S SS S':List Ent} {iq eq:Nat} {I:TI} {t t':Tb} {cc:Cap} {k n8:Nat} {z:Q} {cf:AV} {n:Int} (h:Af1 S SS iq eq I t cc k n8 z cf n) (ho:∀ d,d<=10->OutW I iq (S.length+d)) (hT:A2 S' iq eq I t' cc) (hS:∀ j,OutW I iq j->nth S' j=nth SS j) (hl:S'.length=SS.length):Af1 S S' iq eq I t' cc k n8 z cf n :=
 ⟨hT,by rw [Ab (hS S.length (ho 0 (by omega)))]; exact h.E4,by rw [Ab (hS _ (ho 1 (by omega)))]; exact h.E6,by rw [Ab (hS _ (ho 2 (by omega)))]; exact h.E8,by rw [hl]; exact h.len,fun j h1 h2=>by rw [hS j h2]; exact h.fr j h1 h2⟩
end
section
open Go
theorem A2.junk {S:List Ent} {iq eq:Nat} {I:TI} {t:Tb} {c:Cap} (h:A2 S iq eq I t c) (h0:t.rows=[]) (k8:iq<S.length) {x y:Nat} (hx:S.length<=x) (hy:S.length<=y) (ji:x≠y) :
  A2 S iq eq ⟨I.it,I.et,x,0,I.ic,I.ec,y,0,I.ids⟩ t c:=by
 have hl:=h.low
 have h1:=hl.it
 have h2:=hl.ic
 have jq:I.ids=[]:=List.length_eq_zero_iff.1 (by rw [h.nids,h0]; rfl)
 refine ⟨?_,h.nids,fun hn=>absurd h0 hn,h.rowE,h.rowW,h.costE,fun hn=>absurd h0 hn,h.nb,h.nf,h.fa,?_,h.okr,h.okc,h.bigW,h.bigM,h.real,h.bB⟩
 ·have h3:=h.top
  rw [h0] at h3 ⊢
  exact h3
 ·have ha:=h.ap
  refine ⟨by simp only; omega,ha.tc,by simp only; omega,by simp only; omega,ji,by simp only; omega,ha.qt,by simp only; omega,ha.qc,by simp only; omega,fun p hp=>?_,ha.rows⟩
  rw [jq] at hp; simp at hp
def BegRW (S:List Ent) (iq eq:Nat) (t':Tb) (r:Rs):Prop :=
 ∃ S' k' tk' I cc,r=(.ref I.it I.et 0,S',tk',k')/\S.length<=S'.length/\A2 S' iq eq I t' cc/\(∀ j,j<S.length->j≠iq->nth S' j=nth S j)/\(∀ j,j<S.length->j≠iq->OutW I iq j)/\(I.ib<S'.length\/S'.length+15<I.ib)
theorem Aip.far {S:List Ent} {iq eq:Nat} {t':Tb} {r:Rs} (k8:iq<S.length) (h:Aip S iq eq t' r):BegRW S iq eq t' r:=by
 obtain ⟨S',k',tk',I,cc,hr,h1,h2,h3,h4⟩:=h
 by_cases h0:t'.rows=[]
 ·refine ⟨S',k',tk',⟨I.it,I.et,S'.length+20,0,I.ic,I.ec,S'.length+21,0,I.ids⟩,cc,hr,h1,h2.junk h0 (by omega) (by omega) (by omega) (by omega),h3,fun j a b=>?_,.inr (by simp only; omega)⟩
  have h5:=h4 j a b
  exact ⟨h5.1,h5.2.1,by simp only; omega,h5.2.2.2⟩
 ·exact ⟨S',k',tk',I,cc,hr,h1,h2,h3,h4,.inl (h2.low.ib h0)⟩
end
section
open Go Go.Proofs.Tryz
def Aop (S:List Ent) (iq:Nat) (a:Ans) (ok:Bool) (r:Rs):Prop :=
 ∃ S' tk' k' c1 c2 q b,r=(.tup [.agg (ansC a.f a.pt a.nu c1 c2 q b),.bool ok],S',tk',k')/\S'.length=S.length/\(∀ j,j<S.length->j≠iq->nth S' j=nth S j)/\(∀ v,a.least=some v->q=some v.1/\b=v.2)/\(a.least=none->q=none/\b=false)
section
variable (S:List Ent) (tk:List Nat) (k iq eq:Nat)
set_option maxHeartbeats 20000000 in
set_option maxRecDepth 100000 in
theorem Alu (l:List RowT) (fl:Bool) (hl:l.length<=1000) (hn:(B8 l).length<=1000) (vars:List ByteArray) (jl:vars.length<=1000) (hv:∀ r ∈ l,∀ c ∈ r.1,c.1 ∈ vars) (hc:∀ r ∈ l,i64 r.2.1/\∀ c ∈ r.1,i64 c.2) (dd:fewC l) (k8:iq<S.length) (hf:FAw S iq eq fl) (K:Nat) (a:Ans) (ok:Bool) (hS:G8 wF K l vars fl=some (a,ok)) :
  ∃ r,cL prog 59 [.ifc 100 (.agg []),Au l,Am vars,.prim (.pointer none)] S tk k=some r/\Aop S iq a ok r:=by
 obtain ⟨Φ,hΦ⟩:∃ Φ,Φ=Aop S iq a ok:=⟨_,rfl⟩
 rw [<- hΦ]
 obtain ⟨rb,tm,hbP⟩:=Ao5 (S++[(⟨k,ans0⟩:Ent)]) tk (k+1) iq eq l fl hl hn vars jl hv hc dd (by simp; omega) hf.app
 obtain ⟨Sb,kb,tkb,I,cc,rfl,hlb,hTb,mq,hob,hib⟩:=hbP.far (by simp; omega)
 simp only [ans0,Au,Am] at tm
 cases hd:Gu wF K (Bj wF l vars fl) with
 | none=>unfold G8 at hS; rw [hd] at hS; simp at hS
 | some bt =>
  obtain ⟨b,t⟩:=bt
  obtain ⟨rd,k7,Sd,kd,rfl,zg,hTd,sm⟩:=Akp Sb tkb kb iq eq I _ t cc K b hTb hd
  have f8:=Abb Sd tkb kd iq eq t.fl hTd.fa
  unfold G8 at hS
  rw [hd] at hS
  simp only at hS
  have gj:∀ j,j<S.length+1->j≠iq->OutW I iq j:=fun j h1 h2=>hob j (by simp; omega) h2
  have hSb:S.length+1<=Sb.length:=by simpa using hlb
  have j0:entAt Sd S.length k=some ans0:=by
   rw [Ab (sm _ (gj _ (by omega) (by omega))),Ab (mq _ (by simp) (by omega))]
   exact Bf
  have aw:∀ j,j<S.length->j≠iq->nth Sd j=nth S j:=fun j h1 h2=>by
   rw [sm _ (gj _ (by omega) h2),mq _ (by simp; omega) h2,A6 h1]
  have hP0:∀ cs,entAt (put Sd S.length ⟨k,cs⟩) S.length k=some cs:=fun cs=>Af (by omega)
  have qf:over ans0 0 ans0=some ans0:=rfl
  have yh:=j0
  simp only [ans0] at qf j0
  refine opG func59 ntmps59 ?_
  cases aj:(wF.stop && t.fl) with
  | true =>
   rw [aj] at f8 hS
   simp (maxSteps:=10^6)+contextual(disch:=try exact dqd)only[evg1,simprocAttr,AV.int,AV.bool,AV.str,results59,Au,Am,tm,k7,f8,j0,qf,hP0,Et,xfs]
   rw [if_pos rfl] at hS
   simp only [Option.some.injEq,Prod.mk.injEq] at hS
   obtain ⟨rfl,rfl⟩:=hS
   rw [hΦ]
   refine ⟨_,_,_,.nilc,.nilc,none,false,rfl,by rw [List.length_take,Ah]; omega,fun j h1 h2=>?_,fun v hv=>by simp at hv,fun _=>⟨rfl,rfl⟩⟩
   rw [Du h1,Ac (by omega)]; exact aw j h1 h2
  | false =>
   rw [aj] at f8 hS
   rw [if_neg Bool.false_ne_true] at hS
   obtain ⟨rf,dq,Sf,kf,rfl,hlf,yt,u6⟩:=Agk Sd tkb kd iq eq I t cc hTd
   have hsz:=Pr hd
   have mh:=Mt (F:=wF) (l:=l) (vars:=vars) (fl:=fl)
   have zy:∀ d,d<=10->OutW I iq (Sf.length+d):=fun d hd=>by
    rw [hlf,zg]; exact Anp hTb (by omega) (by omega) d hd
   have hEf:entAt Sf S.length k=some ans0:=by rw [Ab (u6 _ (gj _ (by omega) (by omega)))]; exact yh
   cases hfe:H5 t with
   | false =>
    rw [hfe] at dq hS
    rw [if_neg Bool.false_ne_true] at hS
    simp only [Option.some.injEq,Prod.mk.injEq] at hS
    obtain ⟨rfl,rfl⟩:=hS
    obtain ⟨rm,o9,Sm,km,tkm,cm,rfl,uu,u7,du⟩:=Xf (Sf++[(⟨kf,ans0⟩:Ent)]) tkb (kf+1) iq eq I t cc (yt.app _) (by rw [hsz.1,hsz.2.2.1,hsz.2.2.2,mh.1,mh.2.2.1,mh.2.2.2]; omega)
    have uo:Sm.length=Sf.length+1:=by rw [uu]; simp
    have mf:entAt Sm Sf.length kf=some ans0:=by rw [Ab (du Sf.length (zy 0 (by omega)))]; exact Bf
    have gf:entAt Sm S.length k=some ans0:=by rw [Ab (du _ (gj _ (by omega) (by omega)))]; exact Aa hEf
    have hR:Kb (Gw wF t).1=(Gw wF t).1.map fun q=>ceW (wF.rat q):=rfl
    have qe:∀ cs,entAt (put Sm Sf.length ⟨kf,cs⟩) Sf.length kf=some cs:=fun cs=>Af (by omega)
    have jc:∀ x,entAt (put Sm Sf.length x) S.length k=some ans0:=fun x=>by rw [Aj (by omega)]; exact gf
    have o6:∀ x,FAw (put Sm Sf.length x) iq eq (Bool.or t.fl (Gw wF t).2):=fun x=>u7.fa.put (by omega)
    have o7:=fun x=>Abb (put Sm Sf.length x) tkm km iq eq _ (o6 x)
    have z6:∀ x cs,entAt (put (put Sm Sf.length x) S.length ⟨k,cs⟩) S.length k=some cs:=fun x cs=>Af (by rw [Ah]; omega)
    simp only [ans0] at mf gf jc o9
    simp (maxSteps:=10^6)+contextual(disch:=try exact dqd)only[evg1,simprocAttr,AV.int,AV.bool,AV.str,results59,Au,Am,tm,k7,f8,dq,o9,mf,qe,jc,o7,z6,Et,xfs]
    rw [hΦ]
    refine ⟨_,_,_,.nilc,cm,none,false,by rw [hR]; unfold ansC; rw [List.map_map]; rfl,by rw [List.length_take,Ah,Ah]; omega,fun j h1 h2=>?_,fun v hv=>by simp at hv,fun _=>⟨rfl,rfl⟩⟩
    rw [Du h1,Ac (by omega),Ac (by omega),du _ (gj _ (by omega) h2),A6 (by omega),u6 _ (gj _ (by omega) h2)]
    exact aw j h1 h2
   | true =>
    rw [hfe] at dq hS
    rw [if_pos rfl] at hS
    simp only [Option.some.injEq,Prod.mk.injEq] at hS
    obtain ⟨rfl,rfl⟩:=hS
    obtain ⟨ans1,qg⟩:∃ ans1:List AV,ans1=[.prim (.bool true),.frz [] .nilc,.frz [] .nilc,.prim (.bool false),.frz [] .nilc,.prim (.bool false),.frz [] .nilc,.prim (.bool false)]:=⟨_,rfl⟩
    obtain ⟨rm,o9,Sm,km,tkm,cm,rfl,uu,u7,du⟩:=Ao0 (Sf++[(⟨kf,ans1⟩:Ent)]) tkb (kf+1) iq eq I t cc (yt.app _) (by rw [hsz.1,hsz.2.1,mh.1,mh.2.1]; omega)
    have uo:Sm.length=Sf.length+1:=by rw [uu]; simp
    have mf:entAt Sm Sf.length kf=some ans1:=by rw [Ab (du Sf.length (zy 0 (by omega)))]; exact Bf
    have gf:entAt Sm S.length k=some ans0:=by rw [Ab (du _ (gj _ (by omega) (by omega)))]; exact Aa hEf
    have hR:Kb (B6 wF t).1=(B6 wF t).1.map fun q=>ceW (wF.rat q):=rfl
    have qe:∀ cs,entAt (put Sm Sf.length ⟨kf,cs⟩) Sf.length kf=some cs:=fun cs=>Af (by omega)
    have jc:∀ x,entAt (put Sm Sf.length x) S.length k=some ans0:=fun x=>by rw [Aj (by omega)]; exact gf
    have o6:∀ x,FAw (put Sm Sf.length x) iq eq (Bool.or t.fl (B6 wF t).2):=fun x=>u7.fa.put (by omega)
    have o7:=fun x=>Abb (put Sm Sf.length x) tkm km iq eq _ (o6 x)
    have z6:∀ x cs,entAt (put (put Sm Sf.length x) S.length ⟨k,cs⟩) S.length k=some cs:=fun x cs=>Af (by rw [Ah]; omega)
    rw [qg] at mf o9
    have yi:Jf BinOp.neq (R0 prog 68) true=some (.prim (.bool false)):=by kernel_rfl
    simp only [ans0] at gf jc
    simp (maxSteps:=10^6)+contextual(disch:=try exact dqd)only[evg1,simprocAttr,AV.int,AV.bool,AV.str,results59,Au,Am,tm,k7,f8,dq,o9,mf,qe,jc,o7,z6,yi,Et,xfs]
    rw [hΦ]
    refine ⟨_,_,_,cm,.nilc,none,false,by rw [hR]; unfold ansC; rw [List.map_map]; rfl,by rw [List.length_take,Ah,Ah]; omega,fun j h1 h2=>?_,fun v hv=>by simp at hv,fun _=>⟨rfl,rfl⟩⟩
    rw [Du h1,Ac (by omega),Ac (by omega),du _ (gj _ (by omega) h2),A6 (by omega),u6 _ (gj _ (by omega) h2)]
    exact aw j h1 h2
end
end
section
open Go Go.Proofs.Tryz
def askN (K:Nat) (l:List RowT) (vars:List ByteArray):Option Ans :=
 match G8 qF K l vars false with
 | none=>none
 | some (a,true)=>some a
 | some (_,false)=>(G8 wF K l vars false).map (·.1)
section
variable (S:List Ent) (tk:List Nat) (k:Nat)
set_option maxHeartbeats 4000000 in
set_option maxRecDepth 100000 in
theorem Wq (l:List RowT) (hl:l.length<=1000) (hn:(B8 l).length<=1000) (vars:List ByteArray) (jl:vars.length<=1000) (hv:∀ r ∈ l,∀ c ∈ r.1,c.1 ∈ vars) (hc:∀ r ∈ l,i64 r.2.1/\∀ c ∈ r.1,i64 c.2) (dd:fewC l) (K:Nat) (a:Ans) (hS:askN K l vars=some a) (ha:a.least=none) :
  cL prog 31 [Au l,Am vars,.prim (.pointer none)] S tk k=some (.agg (ansC a.f a.pt a.nu .unk .unk (some (0,0)) false),S,tk,k):=by
 unfold askN at hS
 cases h1:G8 qF K l vars false with
 | none=>rw [h1] at hS; simp at hS
 | some p =>
  obtain ⟨a1,ok1⟩:=p
  rw [h1] at hS
  obtain ⟨r1,b7,S1,tk1,k1,c1,c2,q1,b1,rfl,hl1,bl,jz,d6⟩:=Aeb [(⟨0,ans0⟩:Ent),(⟨1,[.prim (.bool false)]⟩:Ent)] [] 2 1 1 l false hl hn vars jl hv hc dd (by simp) rfl K a1 ok1 h1
  simp only [ans0,Au,Am] at b7
  have hi1:R9 prog 95=false:=by kernel_rfl
  have u4:R9 prog 100=false:=by kernel_rfl
  have hN1:∀ e:Ent,nth (S1++[e]) S1.length=some e:=fun e=>by rw [Ae,List.getElem?_append_right (Nat.le_refl _),Nat.sub_self]; rfl
  have dw:over [AV.prim (.bool false),.frz [] .nilc,.frz [] .nilc,.prim (.bool false),.frz [] .nilc,.prim (.bool false),.frz [] .nilc,.prim (.bool false)] 0 (ansC a1.f a1.pt a1.nu c1 c2 q1 b1)=some (ansC a1.f a1.pt a1.nu c1 c2 q1 b1):=Ku (by rw [Gq]; rfl)
  have io:∀ f p n c1 c2 q b,takeN 8 (ansC f p n c1 c2 q b)=some (ansC f p n c1 c2 q b):=fun f p n c1 c2 q b=>by
   have:=Mj (r:=[]) (Gq (f:=f) (p:=p) (n:=n) (c1:=c1) (c2:=c2) (q:=q) (b:=b))
   simpa using this
  have yq:nth S1 0=some ⟨0,ans0⟩:=by rw [bl 0 (by simp) (by omega)]; rfl
  have a1b:S1.length=2:=by rw [hl1]; rfl
  have hN0:∀ e:Ent,nth (S1++[e]) 0=some ⟨0,ans0⟩:=fun e=>by rw [A6 (by omega)]; exact yq
  have hNP:∀ e x:Ent,nth (put (S1++[e]) 0 x) 0=some x:=fun e x=>B3 (by simp)
  simp only [ans0] at hN0
  cases ok1 with
  | true =>
   simp only [Option.some.injEq] at hS
   subst hS
   obtain ⟨rfl,rfl⟩:=d6 ha
   refine opP func31 ntmps31 (hp3:=rfl) ?_
   simp (maxSteps:=10^6)+contextual(disch:=try exact dqd)only[ev1,simprocAttr,AV.int,AV.bool,AV.str,results31,Au,Am,b7,hi1,u4,ifcA,hN1,dw,Gq,L7,io,hN0,hNP]
   rfl
  | false =>
   cases h2:G8 wF K l vars false with
   | none=>rw [h2] at hS; simp at hS
   | some p =>
    obtain ⟨a2,ok2⟩:=p
    rw [h2] at hS
    simp only [Option.map_some,Option.some.injEq] at hS
    subst hS
    obtain ⟨r2,hc2,S2,tk2,k2,c3,c4,q2,b2,rfl,hl2,a7,nv,uh⟩:=Alu (S1++[(⟨k1,ansC a1.f a1.pt a1.nu c1 c2 q1 b1⟩:Ent)]) tk1 (k1+1) 1 0 l false hl hn vars jl hv hc dd (by simp; omega) ⟨⟩ K a2 ok2 h2
    obtain ⟨rfl,rfl⟩:=uh ha
    simp only [Au,Am] at hc2
    have hl22:S2.length=3:=by rw [hl2]; simp [a1b]
    have h20:nth S2 0=some ⟨0,ans0⟩:=by rw [a7 0 (by simp) (by omega),A6 (by omega)]; exact yq
    have h2N:nth S2 S1.length=some ⟨k1,ansC a1.f a1.pt a1.nu c1 c2 q1 b1⟩:=by rw [a7 _ (by simp) (by omega)]; exact hN1 _
    have zt:∀ x:Ent,nth (put S2 S1.length x) S1.length=some x:=fun x=>B3 (by omega)
    have a10:∀ x:Ent,nth (put S2 S1.length x) 0=some ⟨0,ans0⟩:=fun x=>by rw [Ac (by omega)]; exact h20
    have a3k:∀ x y:Ent,nth (put (put S2 S1.length x) 0 y) 0=some y:=fun x y=>B3 (by rw [Ah]; omega)
    have gz:over (ansC a1.f a1.pt a1.nu c1 c2 q1 b1) 0 (ansC a2.f a2.pt a2.nu c3 c4 none false)=some (ansC a2.f a2.pt a2.nu c3 c4 none false):=Ku (by rw [Gq,Gq])
    have vp:over [AV.prim (.bool false),.frz [] .nilc,.frz [] .nilc,.prim (.bool false),.frz [] .nilc,.prim (.bool false),.frz [] .nilc,.prim (.bool false)] 0 (ansC a2.f a2.pt a2.nu c3 c4 none false)=some (ansC a2.f a2.pt a2.nu c3 c4 none false):=Ku (by rw [Gq]; rfl)
    simp only [ans0] at a10
    have zq:bldA (some []) (fieldsOf prog 100) []=some (.agg []):=by kernel_rfl
    refine opP func31 ntmps31 (hp3:=rfl) ?_
    simp (maxSteps:=10^6)+contextual(disch:=try exact dqd)only[ev1,simprocAttr,AV.int,AV.bool,AV.str,results31,Au,Am,b7,hi1,u4,ifcA,hN1,dw,Gq,L7,io,hc2,h2N,zt,a10,a3k,gz,vp,zq]
    rfl
end
end
section
open Go Go.Proofs.Tryz
section
variable (S:List Ent) (tk:List Nat) (k:Nat)
theorem Pk (l:List RowT) (dt:∀ r ∈ l,r.1.length<=1048576) (hi:∀ r ∈ l,i64 r.2.1/\∀ c ∈ r.1,i64 c.2) (K:Nat) (a:Ans) (hS:sysE l=0->askN K l (B8 l)=some a/\a.least=none) :
  cL prog 13 [Au l] S tk k=some (.tup [.bool (if sysE l=0 then a.f else false),.int (sysE l)],S,tk,k):=by
 have hC:=fun S tk k=>Es S tk k l dt
 by_cases h0:sysE l=0
 ·obtain ⟨h1,h2,h3,-⟩:=Gr h0
  have hV:=fun S tk k=>B2 S tk k l h1 h2
  obtain ⟨cj,a8⟩:=hS h0
  have hA:=fun S tk k=>Wq S tk k l (by omega) (by omega) (B8 l) (by omega) Ms hi h1 K a cj a8
  have c1:(sysE l != 0)=false:=by simpa using h0
  simp only [ansC,lsC,ceW,Au,Am,List.cons_append,List.nil_append] at hA
  simp only [Au,Am] at hC hV
  refine opP func13 ntmps13 (hp3:=rfl) ?_
  simp (maxSteps:=10^6)+contextual(disch:=try exact dqd)only[ev1,simprocAttr,AV.int,AV.bool,AV.str,results13,Au,Am,hC,hV,hA,c1,h0]
  try (intro h; exact absurd h (by decide))
 ·simp only [Au] at hC
  have c1:(sysE l != 0)=true:=by simpa using h0
  refine opP func13 ntmps13 (hp3:=rfl) ?_
  simp (maxSteps:=10^6)+contextual(disch:=try exact dqd)only[ev1,simprocAttr,AV.int,AV.bool,AV.str,results13,Au,hC,c1,h0]
end
end
section
open Go
def qv (a:Q):Rat:=((a.1:Int):Rat) / ((a.2:Int):Rat)
theorem Gi {d:Int} (h:d≠0):((d:Int):Rat)≠0:=fun e=>h (Rat.intCast_inj.mp (e.trans rfl))
theorem Aoe {a:Q} {n d:Int} (ha:a.2≠0) (hd:d≠0) (h:a.1*d=n*a.2):qv a=((n:Int):Rat) / ((d:Int):Rat):=by
 have h1:=congrArg (fun z:Int=>(z:Rat)) h
 simp only [Rat.intCast_mul] at h1
 have h2:=Gi ha
 have h3:=Gi hd
 unfold qv
 grind
theorem An0 {a:Q} (h:0<a.2):qv a<0↔a.1<0:=by
 unfold qv
 rw [Rat.div_lt_iff (Rat.intCast_pos.2 h),Rat.zero_mul,Rat.intCast_neg_iff]
theorem Aoj {a:Q} (h:0<a.2):0<qv a↔0<a.1:=by
 unfold qv
 rw [Rat.lt_div_iff (Rat.intCast_pos.2 h),Rat.zero_mul,Rat.intCast_pos]
theorem Zy {a:Q} (h:0<a.2):sgn a<0↔qv a<0:=by
 rw [An0 h]; unfold sgn; split
 ·omega
 ·split <;> omega
theorem Rh {a:Q} (h:0<a.2):0<sgn a↔0<qv a:=by
 rw [Aoj h]; unfold sgn; split
 ·omega
 ·split <;> omega
theorem Mm {a:Q} (h:0<a.2):sgn a=0↔qv a=0:=by
 have h1:=Zy h
 have h2:=Rh h
 constructor
 ·intro h0
  have a1:¬ qv a<0:=fun h'=>by have:=h1.2 h'; omega
  have a2:¬ 0<qv a:=fun h'=>by have:=h2.2 h'; omega
  grind
 ·intro h0
  have a1:¬ sgn a<0:=fun h'=>by have:=h1.1 h'; grind
  have a2:¬ 0<sgn a:=fun h'=>by have:=h2.1 h'; grind
  omega
theorem Ada:qv q0=0:=by unfold qv q0; grind
structure Fld.Exact (F:Fld) (G:Q->Prop):Prop where
 pos:∀ a,G a->0<a.2
 zero:G q0
 whole:∀ n,i64 n->(F.whole n).2=false->G (F.whole n).1/\qv (F.whole n).1=((n:Int):Rat)
 minus:∀ a b,G a->G b->(F.minus a b).2=false->G (F.minus a b).1/\qv (F.minus a b).1=qv a - qv b
 times:∀ a b,G a->G b->(F.times a b).2=false->G (F.times a b).1/\qv (F.times a b).1=qv a*qv b
 over:∀ a b,G a->G b->qv b≠0->(F.over a b).2=false->G (F.over a b).1/\qv (F.over a b).1=qv a / qv b
structure Fld.Total (F:Fld) (G:Q->Prop) (fit:Rat->Prop):Prop where
 whole:∀ n,i64 n->(F.whole n).2=false
 minus:∀ a b,G a->G b->fit (qv a - qv b)->(F.minus a b).2=false
 times:∀ a b,G a->G b->fit (qv a*qv b)->(F.times a b).2=false
 over:∀ a b,G a->G b->qv b≠0->fit (qv a / qv b)->(F.over a b).2=false
theorem Ap1 {n d:Int} (hd:d≠0):qv (lowN n d,lowD n d)=((n:Int):Rat) / ((d:Int):Rat):=Aoe (a:=(lowN n d,lowD n d)) (by have:=Nf (n:=n) hd; simp only; omega) hd (Ke hd)
theorem Vf {n d:Int} (hd:d≠0) (h:(qn n d).2=false):okS (qn n d).1/\qv (qn n d).1=((n:Int):Rat) / ((d:Int):Rat):=by
 refine ⟨Ajh n d,?_⟩
 unfold qn at h ⊢
 split
 ·rename_i hb; rw [if_pos hb] at h; simp at h
 ·exact Ap1 hd
theorem Vp {n d:Int} (h:(wn n d).2=false):H4 (wn n d).1.1 (wn n d).1.2/\qv (wn n d).1=((n:Int):Rat) / ((d:Int):Rat):=by
 have hf:Gb n d=true:=by simpa [wn] using h
 have g:=Aa3 hf
 exact ⟨g,Aoe (a:=(resN n d,resD n d)) (by have:=g.pos; simp only; omega) (Zj hf) (Agl hf)⟩
def Ut (x:Rat):Prop:=∃ n d:Int,d≠0/\x=((n:Int):Rat) / ((d:Int):Rat)/\n.natAbs<10000 ^ 200/\d.natAbs<10000 ^ 200
theorem Ak3 {z:Int} (h:z.natAbs<10000 ^ 200):okZ z=true:=by
 have:=Bo.2 h
 simp only [okZ,Bool.not_eq_true',decide_eq_false_iff_not]
 omega
theorem Vx {n d:Int} (hd:d≠0) (h:Ut (((n:Int):Rat) / ((d:Int):Rat))):(wn n d).2=false:=by
 obtain ⟨a,b,hb,he,qp,hb1⟩:=h
 have e:n*b=a*d:=by
  have h2:=Gi hd
  have h3:=Gi hb
  have h4:((n*b:Int):Rat)=((a*d:Int):Rat):=by
   rw [Rat.intCast_mul,Rat.intCast_mul]
   grind
  exact Rat.intCast_inj.mp h4
 have hf:=(Al3 hd hb e).1
 have hg:Gb a b=true:=by
  unfold Gb
  have l1:(lowN a b).natAbs<10000 ^ 200:=by rw [Rf]; exact Nat.lt_of_le_of_lt (Nat.div_le_self _ _) qp
  have l2:(lowD a b).natAbs<10000 ^ 200:=Nat.lt_of_le_of_lt (Nat.div_le_self _ _) hb1
  rw [Ak3 l1,Ak3 l2]
  simp [hb]
 unfold wn
 rw [hf,hg]; rfl
theorem N6 {a b c d:Rat} (hb:b≠0) (hd:d≠0):(a*d - c*b) / (b*d)=a / b - c / d:=by grind
theorem N4 {a b c d:Rat} (hb:b≠0) (hd:d≠0):(a*d+-c*b) / (b*d)=a / b - c / d:=by grind
theorem H1 {a b c d:Rat} (hb:b≠0) (hd:d≠0):(a*c) / (b*d)=a / b*(c / d):=by grind
theorem Kk {a b c d:Rat} (hb:b≠0) (hd:d≠0) (hc:c≠0):(a*d) / (b*c)=a / b / (c / d):=by grind
theorem Q3 {b:Q} (h:qv b≠0):b.1≠0:=fun h0=>h (by unfold qv; rw [h0]; show (0:Rat) / _=0; grind)
theorem Abu:qF.Exact okS:=by
 refine ⟨fun a h=>h.2.2.1,⟨by decide,by decide,by decide,by decide⟩,fun n _ h=>?_,fun a b ha hb h=>?_,fun a b ha hb h=>?_,fun a b ha hb h0 h=>?_⟩
 ·simp only [qF] at h ⊢
  split
  ·rename_i hb; rw [if_pos hb] at h; simp at h
  ·refine ⟨⟨?_,?_,?_,?_⟩,?_⟩
   ·simp only; omega
   ·simp only; omega
   ·simp only; omega
   ·simp only; omega
   ·unfold qv; simp only; show _ / ((1:Int):Rat)=_; rw [Rat.intCast_one]; grind
 ·have h1:=ha.2.2.1
  have h2:=hb.2.2.1
  have e:=Vf (Int.mul_ne_zero (by omega) (by omega)) h
  refine ⟨e.1,e.2.trans ?_⟩
  rw [Rat.intCast_sub,Rat.intCast_mul,Rat.intCast_mul,Rat.intCast_mul]
  exact N6 (Gi (by omega)) (Gi (by omega))
 ·have h1:=ha.2.2.1
  have h2:=hb.2.2.1
  have e:=Vf (Int.mul_ne_zero (by omega) (by omega)) h
  refine ⟨e.1,e.2.trans ?_⟩
  rw [Rat.intCast_mul,Rat.intCast_mul]
  exact H1 (Gi (by omega)) (Gi (by omega))
 ·have h1:=ha.2.2.1
  have h2:=hb.2.2.1
  have h3:=Q3 h0
  simp only [qF] at h ⊢
  rw [if_neg h3] at h ⊢
  have e:=Vf (Int.mul_ne_zero (by omega) h3) h
  refine ⟨e.1,e.2.trans ?_⟩
  rw [Rat.intCast_mul,Rat.intCast_mul]
  exact Kk (Gi (by omega)) (Gi (by omega)) (Gi h3)
def gW (a:Q):Prop:=H4 a.1 a.2
theorem Pc {a:Q} (h:gW a):qz a=a:=by
 have:=h.pos
 unfold qz; rw [if_neg (by omega)]
theorem Aj9 {n:Int} (h:i64 n):gW (n,1):=by
 have:=B7.whole n h
 rcases this with h1|h1
 ·exact h1
 ·simp [wF] at h1
theorem P5:wF.Exact gW:=by
 refine ⟨fun a h=>h.pos,Wj,fun n hn h=>⟨Aj9 hn,?_⟩,fun a b ha hb h=>?_,fun a b ha hb h=>?_,fun a b ha hb h0 h=>?_⟩
 ·simp only [wF]; unfold qv; simp only; show _ / ((1:Int):Rat)=_; rw [Rat.intCast_one]; grind
 ·have h1:=ha.pos
  have h2:=hb.pos
  simp only [wF,Pc ha,Pc hb] at h ⊢
  have e:=Vp h
  refine ⟨e.1,e.2.trans ?_⟩
  rw [Rat.intCast_add,Rat.intCast_mul,Rat.intCast_mul,Rat.intCast_mul,Rat.intCast_neg]
  exact N4 (Gi (by omega)) (Gi (by omega))
 ·have h1:=ha.pos
  have h2:=hb.pos
  simp only [wF,Pc ha,Pc hb] at h ⊢
  have e:=Vp h
  refine ⟨e.1,e.2.trans ?_⟩
  rw [Rat.intCast_mul,Rat.intCast_mul]
  exact H1 (Gi (by omega)) (Gi (by omega))
 ·have h1:=ha.pos
  have h2:=hb.pos
  have h3:=Q3 h0
  simp only [wF,Pc ha,Pc hb] at h ⊢
  have e:=Vp h
  refine ⟨e.1,e.2.trans ?_⟩
  rw [Rat.intCast_mul,Rat.intCast_mul]
  exact Kk (Gi (by omega)) (Gi (by omega)) (Gi h3)
theorem Aap:wF.Total gW Ut:=by
 refine ⟨fun n _=>rfl,fun a b ha hb h=>?_,fun a b ha hb h=>?_,fun a b ha hb h0 h=>?_⟩
 ·have h1:=ha.pos
  have h2:=hb.pos
  simp only [wF,Pc ha,Pc hb]
  refine Vx (Int.mul_ne_zero (by omega) (by omega)) ?_
  rw [Rat.intCast_add,Rat.intCast_mul,Rat.intCast_mul,Rat.intCast_mul,Rat.intCast_neg,N4 (Gi (by omega)) (Gi (by omega))]
  exact h
 ·have h1:=ha.pos
  have h2:=hb.pos
  simp only [wF,Pc ha,Pc hb]
  refine Vx (Int.mul_ne_zero (by omega) (by omega)) ?_
  rw [Rat.intCast_mul,Rat.intCast_mul,H1 (Gi (by omega)) (Gi (by omega))]
  exact h
 ·have h1:=ha.pos
  have h2:=hb.pos
  have h3:=Q3 h0
  simp only [wF,Pc ha,Pc hb]
  refine Vx (Int.mul_ne_zero (by omega) h3) ?_
  rw [Rat.intCast_mul,Rat.intCast_mul,Kk (Gi (by omega)) (Gi (by omega)) (Gi h3)]
  exact h
theorem Y7 {l:List ByteArray} {s:ByteArray} (h:s ∈ l):nth l (idxV l s)=some s:=by
 obtain ⟨j,h1,h2,h3⟩:=Rz (i:=0) h
 unfold idxV
 rw [h2]
 have:((0+j:Nat):Int).toNat=j:=by omega
 rw [this]; exact h3
end
section
open Go
def tabV (t:Tb):Simp.Tab:=⟨fun i j=>qv (at_ q0 (Bx t i) j),fun j=>qv (at_ q0 t.cost j),fun i=>at_ 0 t.basis i⟩
structure TOk (G:Q->Prop) (m N:Nat) (t:Tb):Prop where
 rows:t.rows.length=m
 basis:t.basis.length=m
 cost:t.cost.length=N+1
 rowW:∀ r ∈ t.rows,r.length=N+1
 okr:∀ r ∈ t.rows,∀ q ∈ r,G q
 okc:∀ q ∈ t.cost,G q
section
variable {α:Type} {d x:α} {l:List α} {k:Nat}
theorem Wa:at_ d [] k=d:=rfl
theorem Wu (h:k<l.length):nth l k=some (at_ d l k):=by
 obtain ⟨y,hy⟩:=Ag h
 unfold at_; rw [hy]; rfl
theorem Hl (h:k<l.length):at_ d l k ∈ l:=Al (Wu h)
theorem Aes (h:l.length<=k):at_ d l k=d:=by
 unfold at_; rw [Ae,List.getElem?_eq_none h]; rfl
theorem N8 (h:k<l.length) {j:Nat} : at_ d (put l k x) j=if j=k then x else at_ d l j:=by
 unfold at_
 by_cases e:j=k
 ·subst e; rw [if_pos rfl,B3 h]; rfl
 ·rw [if_neg e,Ac (Ne.symm e)]
end
section
variable {F:Fld} {G:Q->Prop} {fit:Rat->Prop} {m N:Nat}
theorem Yu (hE:F.Exact G) {b:Q} (hb:G b) (h0:qv b≠0):∀ {l:List Q},(∀ q ∈ l,G q)->(divL F b l).2=false->(∀ q ∈ (divL F b l).1,G q)/\∀ j,qv (at_ q0 (divL F b l).1 j)=qv (at_ q0 l j) / qv b
 | [],_,_=>⟨fun q h=>(by cases h),fun j=>by simp only [divL,Wa,Ada]; grind⟩
 | x :: l,hl,hf=>by
  have hx:(dvS F b x).2=false/\(divL F b l).2=false:=by simpa [divL] using hf
  have ih:=Yu hE hb h0 (fun q h=>hl q (List.mem_cons_of_mem _ h)) hx.2
  have gx:=hl x (List.mem_cons_self ..)
  have hs:G (dvS F b x).1/\qv (dvS F b x).1=qv x / qv b:=by
   have h1:=hx.1
   unfold dvS at h1 ⊢
   split
   ·rename_i h
    exact ⟨gx,by rw [(Mm (hE.pos x gx)).1 h]; grind⟩
   ·rename_i h
    rw [if_neg h] at h1
    exact hE.over x b gx hb h0 h1
  refine ⟨fun q h=>?_,fun j=>?_⟩
  ·rcases List.mem_cons.1 h with rfl|h
   ·exact hs.1
   ·exact ih.1 q h
  ·cases j with
   | zero=>exact hs.2
   | succ j=>exact ih.2 j
theorem Ab5 (hT:F.Total G fit) {b:Q} (hb:G b) (h0:qv b≠0):∀ {l:List Q},(∀ q ∈ l,G q)->(∀ j,j<l.length->fit (qv (at_ q0 l j) / qv b))->(divL F b l).2=false
 | [],_,_=>rfl
 | x :: l,hl,hf=>by
  have ih:=Ab5 hT hb h0 (l:=l) (fun q h=>hl q (List.mem_cons_of_mem _ h)) fun j hj=>hf (j+1) (by simpa using hj)
  have gx:=hl x (List.mem_cons_self ..)
  have hs:(dvS F b x).2=false:=by
   unfold dvS
   split
   ·rfl
   ·exact hT.over x b gx hb h0 (hf 0 (by simp))
  show ((dvS F b x).2 || (divL F b l).2)=false
  rw [hs,ih]; rfl
theorem Yy {b:Q} : ∀ {l:List Q},(divL F b l).1.length=l.length
 | []=>rfl
 | x :: l=>by simp only [divL,List.length_cons,Yy]
theorem Aje (hE:F.Exact G) {b a r:Q} (hb:G b) (ha:G a) (hr:G r) (hf:(Ji F b a r).2=false):G (Ji F b a r).1/\qv (Ji F b a r).1=qv a - qv b*qv r:=by
 unfold Ji at hf ⊢
 split
 ·rename_i h
  exact ⟨ha,by rw [(Mm (hE.pos r hr)).1 h]; grind⟩
 ·rename_i h
  rw [if_neg h] at hf
  simp only [Bool.or_eq_false_iff] at hf
  have h1:=hE.times b r hb hr hf.1
  have h2:=hE.minus a _ ha h1.1 hf.2
  exact ⟨h2.1,by rw [h2.2,h1.2]⟩
theorem Aca (hE:F.Exact G) {b:Q} (hb:G b):∀ {l r:List Q},l.length=r.length->(∀ q ∈ l,G q)->(∀ q ∈ r,G q)->(lessL F b l r).2=false->(∀ q ∈ (lessL F b l r).1,G q)/\∀ j,qv (at_ q0 (lessL F b l r).1 j)=qv (at_ q0 l j) - qv b*qv (at_ q0 r j)
 | [],[],_,_,_,_=>⟨fun q h=>(by cases h),fun j=>by simp only [lessL,Wa,Ada]; grind⟩
 | [],_ :: _,h,_,_,_=>by simp at h
 | _ :: _,[],h,_,_,_=>by simp at h
 | a :: l,r :: rs,h,hl,hr,hf=>by
  have hx:(Ji F b a r).2=false/\(lessL F b l rs).2=false:=by simpa [lessL] using hf
  have ih:=Aca hE hb (by simpa using h) (fun q h=>hl q (List.mem_cons_of_mem _ h)) (fun q h=>hr q (List.mem_cons_of_mem _ h)) hx.2
  have hs:=Aje hE hb (hl a (List.mem_cons_self ..)) (hr r (List.mem_cons_self ..)) hx.1
  refine ⟨fun q h=>?_,fun j=>?_⟩
  ·rcases List.mem_cons.1 h with rfl|h
   ·exact hs.1
   ·exact ih.1 q h
  ·cases j with
   | zero=>exact hs.2
   | succ j=>exact ih.2 j
theorem V6 (hE:F.Exact G) (hT:F.Total G fit) {b:Q} (hb:G b):∀ {l r:List Q},l.length=r.length->(∀ q ∈ l,G q)->(∀ q ∈ r,G q)->(∀ j,j<r.length->fit (qv b*qv (at_ q0 r j))/\fit (qv (at_ q0 l j) - qv b*qv (at_ q0 r j)))->(lessL F b l r).2=false
 | [],[],_,_,_,_=>rfl
 | [],_ :: _,h,_,_,_=>by simp at h
 | _ :: _,[],h,_,_,_=>by simp at h
 | a :: l,r :: rs,h,hl,hr,hf=>by
  have ih:=V6 hE hT hb (l:=l) (r:=rs) (by simpa using h) (fun q h=>hl q (List.mem_cons_of_mem _ h)) (fun q h=>hr q (List.mem_cons_of_mem _ h)) fun j hj=>hf (j+1) (by simpa using hj)
  have ga:=hl a (List.mem_cons_self ..)
  have gr:=hr r (List.mem_cons_self ..)
  have h0:=hf 0 (by simp)
  have hs:(Ji F b a r).2=false:=by
   unfold Ji
   split
   ·rfl
   ·have t1:=hT.times b r hb gr h0.1
    have t2:=hE.times b r hb gr t1
    have t3:=hT.minus a _ ga t2.1 (by rw [t2.2]; exact h0.2)
    simp only [t1,t3]; rfl
  show ((Ji F b a r).2 || (lessL F b l rs).2)=false
  rw [hs,ih]; rfl
theorem Aam (hE:F.Exact G) {a r:List Q} {c:Nat} (hc:c<a.length) (hl:a.length=r.length) (ha:∀ q ∈ a,G q) (hr:∀ q ∈ r,G q) (hf:(lessT F a r c).2=false):(∀ q ∈ (lessT F a r c).1,G q)/\∀ j,qv (at_ q0 (lessT F a r c).1 j)=qv (at_ q0 a j) - qv (at_ q0 a c)*qv (at_ q0 r j):=by
 have hb:=ha _ (Hl (d:=q0) hc)
 unfold lessT at hf ⊢
 rw [Wu (d:=q0) hc] at hf ⊢
 simp only at hf ⊢
 split
 ·rename_i h
  exact ⟨ha,fun j=>by rw [(Mm (hE.pos _ hb)).1 h]; grind⟩
 ·rename_i h
  rw [if_neg h] at hf
  exact Aca hE hb hl ha hr hf
theorem Wn (hE:F.Exact G) (hT:F.Total G fit) {a r:List Q} {c:Nat} (hc:c<a.length) (hl:a.length=r.length) (ha:∀ q ∈ a,G q) (hr:∀ q ∈ r,G q) (hf:∀ j,j<r.length->fit (qv (at_ q0 a c)*qv (at_ q0 r j))/\fit (qv (at_ q0 a j) - qv (at_ q0 a c)*qv (at_ q0 r j))):(lessT F a r c).2=false:=by
 have hb:=ha _ (Hl (d:=q0) hc)
 unfold lessT
 rw [Wu (d:=q0) hc]
 simp only
 split
 ·rfl
 ·exact V6 hE hT hb hl ha hr hf
theorem Qr (hE:F.Exact G) {row:List Q} {c i W:Nat} (hc:c<W) (hw:row.length=W) (hr:∀ q ∈ row,G q):∀ {l:List (List Q)} {k:Nat},(∀ r ∈ l,r.length=W)->(∀ r ∈ l,∀ q ∈ r,G q)->(lessRows F row c i k l).2=false ->
  (∀ r ∈ (lessRows F row c i k l).1,r.length=W)/\(∀ r ∈ (lessRows F row c i k l).1,∀ q ∈ r,G q)/\∀ n j,n<l.length->qv (at_ q0 (at_ [] (lessRows F row c i k l).1 n) j)=if k+n=i then qv (at_ q0 (at_ [] l n) j) else qv (at_ q0 (at_ [] l n) j) - qv (at_ q0 (at_ [] l n) c)*qv (at_ q0 row j)
 | [],k,_,_,_=>⟨fun r h=>(by cases h),fun r h=>(by cases h),fun n j hn=>by simp at hn⟩
 | r :: l,k,hl,hg,hf=>by
  have hx:(lessK F row c i k r).2=false/\(lessRows F row c i (k+1) l).2=false:=by simpa [lessRows] using hf
  have ih:=Qr hE hc hw hr (fun r h=>hl r (List.mem_cons_of_mem _ h)) (fun r h=>hg r (List.mem_cons_of_mem _ h)) hx.2
  have hlr:=hl r (List.mem_cons_self ..)
  have hgr:=hg r (List.mem_cons_self ..)
  have hs:(lessK F row c i k r).1.length=W/\(∀ q ∈ (lessK F row c i k r).1,G q)/\∀ j,qv (at_ q0 (lessK F row c i k r).1 j)=if k=i then qv (at_ q0 r j) else qv (at_ q0 r j) - qv (at_ q0 r c)*qv (at_ q0 row j):=by
   have h1:=hx.1
   unfold lessK at h1 ⊢
   by_cases e:k=i
   ·simp only [if_pos e]; exact ⟨hlr,hgr,fun j=>trivial⟩
   ·simp only [if_neg e] at h1 ⊢
    have h2:=Aam hE (by omega) (by rw [hlr,hw]) hgr hr h1
    exact ⟨by rw [Vm]; exact hlr,h2.1,h2.2⟩
  refine ⟨fun q h=>?_,fun q h=>?_,fun n j hn=>?_⟩
  ·rcases List.mem_cons.1 h with rfl|h
   ·exact hs.1
   ·exact ih.1 q h
  ·rcases List.mem_cons.1 h with rfl|h
   ·exact hs.2.1
   ·exact ih.2.1 q h
  ·cases n with
   | zero=>exact hs.2.2 j
   | succ n =>
    have:=ih.2.2 n j (by simpa using hn)
    rw [show k+1+n=k+(n+1) by omega] at this
    exact this
theorem N1 (hE:F.Exact G) (hT:F.Total G fit) {row:List Q} {c i W:Nat} (hc:c<W) (hw:row.length=W) (hr:∀ q ∈ row,G q):∀ {l:List (List Q)} {k:Nat},(∀ r ∈ l,r.length=W)->(∀ r ∈ l,∀ q ∈ r,G q) ->
  (∀ n j,n<l.length->k+n≠i->j<W->fit (qv (at_ q0 (at_ [] l n) c)*qv (at_ q0 row j))/\fit (qv (at_ q0 (at_ [] l n) j) - qv (at_ q0 (at_ [] l n) c)*qv (at_ q0 row j)))->(lessRows F row c i k l).2=false
 | [],k,_,_,_=>rfl
 | r :: l,k,hl,hg,hf=>by
  have ih:=N1 hE hT hc hw hr (l:=l) (k:=k+1) (i:=i) (fun r h=>hl r (List.mem_cons_of_mem _ h)) (fun r h=>hg r (List.mem_cons_of_mem _ h)) fun n j hn hk hj=>hf (n+1) j (by simpa using hn) (by omega) hj
  have hlr:=hl r (List.mem_cons_self ..)
  have hgr:=hg r (List.mem_cons_self ..)
  have hs:(lessK F row c i k r).2=false:=by
   unfold lessK
   by_cases e:k=i
   ·rw [if_pos e]
   ·rw [if_neg e]
    exact Wn hE hT (by omega) (by rw [hlr,hw]) hgr hr fun j hj=>hf 0 j (by simp) (by omega) (by omega)
  show ((lessK F row c i k r).2 || (lessRows F row c i (k+1) l).2)=false
  rw [hs,ih]; rfl
structure Abn (fit:Rat->Prop) (m N:Nat) (t:Simp.Tab) (r s:Nat):Prop where
 row:∀ j,j<N+1->fit (t.T r j / t.T r s)
 mul:∀ i j,i<m->j<N+1->fit (t.T i s*(t.T r j / t.T r s))
 sub:∀ i j,i<m->j<N+1->i≠r->fit (t.T i j - t.T i s*(t.T r j / t.T r s))
 cmul:∀ j,j<N+1->fit (t.c s*(t.T r j / t.T r s))
 csub:∀ j,j<N+1->fit (t.c j - t.c s*(t.T r j / t.T r s))
theorem M7 {t:Tb} (h:TOk G m N t) {i:Nat} (hi:i<m):Bx t i ∈ t.rows:=Hl (by rw [h.rows]; exact hi)
theorem Acd (hE:F.Exact G) (hT:F.Total G fit) {t:Tb} (h:TOk G m N t) {i c:Nat} (hi:i<m) (hc:c<N+1) (h0:(tabV t).T i c≠0) (jh:t.fl=false) (hp:Abn fit m N (tabV t) i c):(Dq F t i c).fl=false:=by
 have dj:=M7 h hi
 have hb:=h.okr _ dj _ (Hl (d:=q0) (k:=c) (by rw [h.rowW _ dj]; exact hc))
 have d1:=Ab5 hT hb h0 (h.okr _ dj) fun j hj=>hp.row j (by rw [h.rowW _ dj] at hj; exact hj)
 have d2:=Yu hE hb h0 (h.okr _ dj) d1
 have dl:=Yy (F:=F) (b:=at_ q0 (Bx t i) c) (l:=Bx t i)
 rw [h.rowW _ dj] at dl
 have r1:(lessRows F (divL F (at_ q0 (Bx t i) c) (Bx t i)).1 c i 0 (put t.rows i (divL F (at_ q0 (Bx t i) c) (Bx t i)).1)).2=false:=by
  refine N1 hE hT (W:=N+1) hc dl d2.1 (fun r hr=>?_) (fun r hr=>?_) fun n j hn hk hj=>?_
  ·rcases Ja hr with rfl|hr
   ·exact dl
   ·exact h.rowW r hr
  ·rcases Ja hr with rfl|hr
   ·exact d2.1
   ·exact h.okr r hr
  ·rw [Ak,h.rows] at hn
   rw [N8 (by rw [h.rows]; exact hi),if_neg (by omega),d2.2]
   exact ⟨hp.mul n j hn hj,hp.sub n j hn hj (by omega)⟩
 have k1:(lessT F t.cost (divL F (at_ q0 (Bx t i) c) (Bx t i)).1 c).2=false:=by
  refine Wn hE hT (by rw [h.cost]; exact hc) (by rw [h.cost,dl]) h.okc d2.1 fun j hj=>?_
  rw [dl] at hj
  rw [d2.2]
  exact ⟨hp.cmul j hj,hp.csub j hj⟩
 show (((t.fl || _) || _) || _)=false
 rw [jh,d1,r1,k1]; rfl
theorem Adx (hE:F.Exact G) {t:Tb} (h:TOk G m N t) {i c:Nat} (hi:i<m) (hc:c<N+1) (h0:(tabV t).T i c≠0) (jh:(Dq F t i c).fl=false):TOk G m N (Dq F t i c)/\tabV (Dq F t i c)=Simp.piv (tabV t) i c:=by
 have dj:=M7 h hi
 have hb:=h.okr _ dj _ (Hl (d:=q0) (k:=c) (by rw [h.rowW _ dj]; exact hc))
 have a11:(((t.fl || (divL F (at_ q0 (Bx t i) c) (Bx t i)).2) || (lessRows F (divL F (at_ q0 (Bx t i) c) (Bx t i)).1 c i 0 (put t.rows i (divL F (at_ q0 (Bx t i) c) (Bx t i)).1)).2) || (lessT F t.cost (divL F (at_ q0 (Bx t i) c) (Bx t i)).1 c).2)=false:=jh
 simp only [Bool.or_eq_false_iff] at a11
 obtain ⟨⟨⟨-,d1⟩,r1⟩,k1⟩:=a11
 have d2:=Yu hE hb h0 (h.okr _ dj) d1
 have dl:=Yy (F:=F) (b:=at_ q0 (Bx t i) c) (l:=Bx t i)
 rw [h.rowW _ dj] at dl
 have r2:=Qr hE (W:=N+1) hc dl d2.1 (fun r hr=>by
  rcases Ja hr with rfl|hr
  ·exact dl
  ·exact h.rowW r hr) (fun r hr=>by
  rcases Ja hr with rfl|hr
  ·exact d2.1
  ·exact h.okr r hr) r1
 have k2:=Aam hE (by rw [h.cost]; exact hc) (by rw [h.cost,dl]) h.okc d2.1 k1
 refine ⟨⟨?_,?_,?_,r2.1,r2.2.1,k2.1⟩,?_⟩
 ·show (lessRows _ _ _ _ _ _).1.length=m
  rw [J0,Ak]; exact h.rows
 ·show (put _ _ _).length=m
  rw [Ak]; exact h.basis
 ·show (lessT _ _ _ _).1.length=N+1
  rw [Vm]; exact h.cost
 ·have eT:(tabV (Dq F t i c)).T=(Simp.piv (tabV t) i c).T:=by
   funext i' j
   show qv (at_ q0 (at_ [] (lessRows F (divL F (at_ q0 (Bx t i) c) (Bx t i)).1 c i 0 (put t.rows i (divL F (at_ q0 (Bx t i) c) (Bx t i)).1)).1 i') j)=Simp.pivT (tabV t) i c i' j
   by_cases au:i'<m
   ·rw [r2.2.2 i' j (by rw [Ak,h.rows]; exact au),N8 (by rw [h.rows]; exact hi),d2.2]
    unfold Simp.pivT
    by_cases e:i'=i
    ·subst e
     rw [if_pos (by omega),if_pos rfl,if_pos rfl,d2.2]; rfl
    ·rw [if_neg (by omega),if_neg e,if_neg e]; rfl
   ·have hn:at_ [] t.rows i'=[]:=Aes (by rw [h.rows]; omega)
    have z:∀ j,(tabV t).T i' j=0:=fun j=>by
     show qv (at_ q0 (at_ [] t.rows i') j)=0
     rw [hn,Wa,Ada]
    have e2:at_ [] (lessRows F (divL F (at_ q0 (Bx t i) c) (Bx t i)).1 c i 0 (put t.rows i (divL F (at_ q0 (Bx t i) c) (Bx t i)).1)).1 i'=[]:=Aes (by rw [J0,Ak,h.rows]; omega)
    rw [e2,Wa,Ada]
    unfold Simp.pivT
    rw [if_neg (by omega),z,z]; grind
  have eC:(tabV (Dq F t i c)).c=(Simp.piv (tabV t) i c).c:=by
   funext j
   show qv (at_ q0 (lessT F t.cost (divL F (at_ q0 (Bx t i) c) (Bx t i)).1 c).1 j)=_
   rw [k2.2,d2.2]; rfl
  have eB:(tabV (Dq F t i c)).B=(Simp.piv (tabV t) i c).B:=by
   funext k
   show at_ 0 (put t.basis i c) k=if k=i then c else at_ 0 t.basis k
   exact N8 (by rw [h.basis]; exact hi)
  show Simp.Tab.mk _ _ _=Simp.Tab.mk _ _ _
  exact congr (congr (congrArg Simp.Tab.mk eT) eC) eB
end
end
section
open Go
def Kx (G:Q->Prop) (N c:Nat) (T:Simp.Tab) (k:Nat):Option (Nat × Q)->Prop
 | none=>∀ i,i<k->T.T i c<=0
 | some (i,q)=>i<k/\0<T.T i c/\G q/\qv q=T.T i N / T.T i c/\∀ i',i'<k->0<T.T i' c->T.T i N / T.T i c<=T.T i' N / T.T i' c/\(T.T i N / T.T i c=T.T i' N / T.T i' c->T.B i<=T.B i')
structure P2 (fit:Rat->Prop) (m N c:Nat) (T:Simp.Tab):Prop where
 quo:∀ i,i<m->0<T.T i c->fit (T.T i N / T.T i c)
 sub:∀ i k,i<m->k<m->0<T.T i c->0<T.T k c->fit (T.T i N / T.T i c - T.T k N / T.T k c)
def Mb (F:Fld) (basis:List Nat) (c W k:Nat) (r:List Q) (b:Option (Nat × Q)):Option (Nat × Q) × Bool :=
 if sgn (at_ q0 r c)<=0 then (b,false) else
  match b with
  | none=>(some (k,(F.over (at_ q0 r (W - 1)) (at_ q0 r c)).1),(F.over (at_ q0 r (W - 1)) (at_ q0 r c)).2)
  | some (bi,least)=>(if worse basis (sgn (F.minus (F.over (at_ q0 r (W - 1)) (at_ q0 r c)).1 least).1) k bi=true then some (bi,least) else some (k,(F.over (at_ q0 r (W - 1)) (at_ q0 r c)).1),(F.over (at_ q0 r (W - 1)) (at_ q0 r c)).2 || (F.minus (F.over (at_ q0 r (W - 1)) (at_ q0 r c)).1 least).2)
theorem Ru {F:Fld} {basis:List Nat} {c W k:Nat} {r:List Q} {l:List (List Q)} {b:Option (Nat × Q)} : Bs F basis c W k (r :: l) b=((Bs F basis c W (k+1) l (Mb F basis c W k r b).1).1,(Mb F basis c W k r b).2 || (Bs F basis c W (k+1) l (Mb F basis c W k r b).1).2):=by
 rw [Bs]
 unfold Mb
 split
 ·simp
 ·cases b with
  | none=>rfl
  | some p=>obtain ⟨bi,least⟩:=p; rfl
section
variable {F:Fld} {G:Q->Prop} {fit:Rat->Prop} {m N L:Nat}
theorem Xk (hE:F.Exact G) {t:Tb} (h:TOk G m N t) {c k:Nat} (hc:c<N+1) (hk:k<m) {b:Option (Nat × Q)} (hb:Kx G N c (tabV t) k b) (hf:(Mb F t.basis c (N+1) k (Bx t k) b).2=false):Kx G N c (tabV t) (k+1) (Mb F t.basis c (N+1) k (Bx t k) b).1:=by
 have dj:=M7 h hk
 have hw:=h.rowW _ dj
 have g1:=h.okr _ dj _ (Hl (d:=q0) (k:=c) (by rw [hw]; exact hc))
 have g2:=h.okr _ dj _ (Hl (d:=q0) (k:=N) (by rw [hw]; omega))
 have p1:=hE.pos _ g1
 have e1:qv (at_ q0 (Bx t k) c)=(tabV t).T k c:=rfl
 have e2:qv (at_ q0 (Bx t k) N)=(tabV t).T k N:=rfl
 unfold Mb at hf ⊢
 rw [Nat.add_sub_cancel] at hf ⊢
 split
 ·rename_i hs
  have hn:(tabV t).T k c<=0:=by
   have:¬ 0<qv (at_ q0 (Bx t k) c):=fun h'=>by have:=(Rh p1).2 h'; omega
   rw [e1] at this; grind
  cases b with
  | none =>
   intro i hi
   by_cases e:i=k
   ·subst e; exact hn
   ·exact hb i (by omega)
  | some p =>
   obtain ⟨bi,least⟩:=p
   obtain ⟨b1,b2,b3,b4,b5⟩:=hb
   refine ⟨by omega,b2,b3,b4,fun i' au hp=>?_⟩
   by_cases e:i'=k
   ·subst e; grind
   ·exact b5 i' (by omega) hp
 ·rename_i hs
  rw [if_neg hs] at hf
  have hp:0<(tabV t).T k c:=by
   rw [<- e1]; exact (Rh p1).1 (by omega)
  have h0:qv (at_ q0 (Bx t k) c)≠0:=by rw [e1]; grind
  cases b with
  | none =>
   simp only at hf ⊢
   have hq:=hE.over _ _ g2 g1 h0 hf
   refine ⟨by omega,hp,hq.1,by rw [hq.2,e1,e2],fun i' au ip=>?_⟩
   by_cases e:i'=k
   ·subst e; exact ⟨Rat.le_refl,fun _=>Nat.le_refl _⟩
   ·have:=hb i' (by omega); grind
  | some p =>
   obtain ⟨bi,least⟩:=p
   obtain ⟨b1,b2,b3,b4,b5⟩:=hb
   simp only [Bool.or_eq_false_iff] at hf ⊢
   have hq:=hE.over _ _ g2 g1 h0 hf.1
   have hd:=hE.minus _ _ hq.1 b3 hf.2
   have pd:=hE.pos _ hd.1
   have hdv:qv (F.minus (F.over (at_ q0 (Bx t k) N) (at_ q0 (Bx t k) c)).1 least).1=(tabV t).T k N / (tabV t).T k c - (tabV t).T bi N / (tabV t).T bi c:=by rw [hd.2,hq.2,b4,e1,e2]
   have s1:=Rh pd
   have s2:=Mm pd
   have s3:=Zy pd
   rw [hdv] at s1 s2 s3
   generalize sgn (F.minus (F.over (at_ q0 (Bx t k) N) (at_ q0 (Bx t k) c)).1 least).1=s at s1 s2 s3 ⊢
   have eB:∀ i,at_ 0 t.basis i=(tabV t).B i:=fun _=>rfl
   unfold worse
   rw [eB,eB]
   by_cases c1:0<s
   ·have hw1:(decide (0<s) || (s == 0 && decide ((tabV t).B bi<(tabV t).B k)))=true:=by simp [c1]
    rw [if_pos hw1]
    have:=s1.1 c1
    refine ⟨by omega,b2,b3,b4,fun i' au ip=>?_⟩
    by_cases e:i'=k
    ·subst e; exact ⟨by grind,fun h'=>by grind⟩
    ·exact b5 i' (by omega) ip
   ·by_cases c2:s=0
    ·have hz:=s2.1 c2
     have ml:(tabV t).T k N / (tabV t).T k c=(tabV t).T bi N / (tabV t).T bi c:=by grind
     by_cases c3:(tabV t).B bi<(tabV t).B k
     ·have hw1:(decide (0<s) || (s == 0 && decide ((tabV t).B bi<(tabV t).B k)))=true:=by simp [c2,c3]
      rw [if_pos hw1]
      refine ⟨by omega,b2,b3,b4,fun i' au ip=>?_⟩
      by_cases e:i'=k
      ·subst e; exact ⟨by grind,fun _=>by omega⟩
      ·exact b5 i' (by omega) ip
     ·have hw1:¬ (decide (0<s) || (s == 0 && decide ((tabV t).B bi<(tabV t).B k)))=true:=by simp [c2,c3]
      rw [if_neg hw1]
      refine ⟨by omega,hp,hq.1,by rw [hq.2,e1,e2],fun i' au ip=>?_⟩
      by_cases e:i'=k
      ·subst e; exact ⟨Rat.le_refl,fun _=>Nat.le_refl _⟩
      ·have h5:=b5 i' (by omega) ip
       refine ⟨by rw [ml]; exact h5.1,fun h'=>?_⟩
       have:=h5.2 (by rw [<- ml]; exact h')
       omega
    ·have hw1:¬ (decide (0<s) || (s == 0 && decide ((tabV t).B bi<(tabV t).B k)))=true:=by simp [c1,c2]
     rw [if_neg hw1]
     have:=s3.1 (by omega)
     refine ⟨by omega,hp,hq.1,by rw [hq.2,e1,e2],fun i' au ip=>?_⟩
     by_cases e:i'=k
     ·subst e; exact ⟨Rat.le_refl,fun _=>Nat.le_refl _⟩
     ·have h5:=b5 i' (by omega) ip
      exact ⟨by grind,fun h'=>by have:=h5.1; grind⟩
theorem Acm (hE:F.Exact G) (hT:F.Total G fit) {t:Tb} (h:TOk G m N t) {c k:Nat} (hc:c<N+1) (hk:k<m) (hF:P2 fit m N c (tabV t)) {b:Option (Nat × Q)} (hb:Kx G N c (tabV t) k b):(Mb F t.basis c (N+1) k (Bx t k) b).2=false:=by
 have dj:=M7 h hk
 have hw:=h.rowW _ dj
 have g1:=h.okr _ dj _ (Hl (d:=q0) (k:=c) (by rw [hw]; exact hc))
 have g2:=h.okr _ dj _ (Hl (d:=q0) (k:=N) (by rw [hw]; omega))
 have p1:=hE.pos _ g1
 have e1:qv (at_ q0 (Bx t k) c)=(tabV t).T k c:=rfl
 have e2:qv (at_ q0 (Bx t k) N)=(tabV t).T k N:=rfl
 unfold Mb
 rw [Nat.add_sub_cancel]
 split
 ·rfl
 ·rename_i hs
  have hp:0<(tabV t).T k c:=by
   rw [<- e1]; exact (Rh p1).1 (by omega)
  have h0:qv (at_ q0 (Bx t k) c)≠0:=by rw [e1]; grind
  have f1:=hT.over _ _ g2 g1 h0 (hF.quo k hk hp)
  cases b with
  | none=>exact f1
  | some p =>
   obtain ⟨bi,least⟩:=p
   obtain ⟨b1,b2,b3,b4,b5⟩:=hb
   have hq:=hE.over _ _ g2 g1 h0 f1
   have f2:=hT.minus _ _ hq.1 b3 (by rw [hq.2,b4,e1,e2]; exact hF.sub k bi hk (by omega) hp b2)
   simp only [f1,f2]; rfl
theorem W0 (hE:F.Exact G) {t:Tb} (h:TOk G m N t) {c:Nat} (hc:c<N+1):∀ {l:List (List Q)} {k:Nat} {b:Option (Nat × Q)},t.rows.drop k=l->k<=m->Kx G N c (tabV t) k b->(Bs F t.basis c (N+1) k l b).2=false->Kx G N c (tabV t) m (Bs F t.basis c (N+1) k l b).1
 | [],k,b,hl,hk,hb,_=>by
  have:t.rows.length<=k:=List.drop_eq_nil_iff.1 hl
  rw [h.rows] at this
  have e:k=m:=by omega
  subst e
  exact hb
 | r :: l,k,b,hl,hk,hb,hf=>by
  have oe:k<m:=by
   have:=congrArg List.length hl
   simp only [List.length_drop,List.length_cons,h.rows] at this
   omega
  have hd:=Bc (Wu (d:=[]) (l:=t.rows) (k:=k) (by rw [h.rows]; exact oe))
  rw [hl] at hd
  obtain ⟨hr,hl2⟩:=List.cons.inj hd
  have er:r=Bx t k:=hr
  rw [Ru] at hf ⊢
  simp only [Bool.or_eq_false_iff] at hf ⊢
  rw [er] at hf ⊢
  exact W0 hE h hc hl2.symm oe (Xk hE h hc oe hb hf.1) hf.2
theorem T9 (hE:F.Exact G) (hT:F.Total G fit) {t:Tb} (h:TOk G m N t) {c:Nat} (hc:c<N+1) (hF:P2 fit m N c (tabV t)):∀ {l:List (List Q)} {k:Nat} {b:Option (Nat × Q)},t.rows.drop k=l->k<=m->Kx G N c (tabV t) k b->(Bs F t.basis c (N+1) k l b).2=false
 | [],k,b,hl,hk,hb=>rfl
 | r :: l,k,b,hl,hk,hb=>by
  have oe:k<m:=by
   have:=congrArg List.length hl
   simp only [List.length_drop,List.length_cons,h.rows] at this
   omega
  have hd:=Bc (Wu (d:=[]) (l:=t.rows) (k:=k) (by rw [h.rows]; exact oe))
  rw [hl] at hd
  obtain ⟨hr,hl2⟩:=List.cons.inj hd
  have er:r=Bx t k:=hr
  have s1:=Acm hE hT h hc oe hF hb
  rw [Ru,er]
  simp only [Bool.or_eq_false_iff]
  exact ⟨s1,T9 hE hT h hc hF hl2.symm oe (Xk hE h hc oe hb s1)⟩
theorem Af5 (hE:F.Exact G) {cost:List Q} (hg:∀ q ∈ cost,G q):∀ {n k:Nat},k+n<=cost.length->match colF cost n k with
  | none=>∀ j,k<=j->j<k+n->0<=qv (at_ q0 cost j)
  | some c=>k<=c/\c<k+n/\qv (at_ q0 cost c)<0/\∀ j,k<=j->j<c->0<=qv (at_ q0 cost j)
 | 0,k,_=>fun j h1 h2=>by omega
 | n+1,k,hn=>by
  have gk:=hg _ (Hl (d:=q0) (k:=k) (l:=cost) (by omega))
  have hs:=Zy (hE.pos _ gk)
  unfold colF
  by_cases c1:sgn (at_ q0 cost k)<0
  ·rw [if_pos c1]
   exact ⟨Nat.le_refl _,by omega,hs.1 c1,fun j h1 h2=>by omega⟩
  ·rw [if_neg c1]
   have hk:0<=qv (at_ q0 cost k):=by
    have:¬ qv (at_ q0 cost k)<0:=fun h'=>c1 (hs.2 h')
    grind
   have ih:=Af5 hE hg (n:=n) (k:=k+1) (by omega)
   cases ey:colF cost n (k+1) with
   | none =>
    rw [ey] at ih
    intro j h1 h2
    by_cases e:j=k
    ·subst e; exact hk
    ·exact ih j (by omega) (by omega)
   | some c =>
    rw [ey] at ih
    obtain ⟨i1,i2,i3,i4⟩:=ih
    refine ⟨by omega,by omega,i3,fun j h1 h2=>?_⟩
    by_cases e:j=k
    ·subst e; exact hk
    ·exact i4 j (by omega) h2
def Safe (F:Fld) (G:Q->Prop) (m N L:Nat) (t0:Simp.Tab):Prop :=
 F.stop=true\/∃ fit,F.Total G fit/\∀ K (R:Simp.Run m N L K),R.t 0=t0->(∀ c,c<L->P2 fit m N c (R.t K))/\∀ r s,r<m->s<N->(R.t K).T r s≠0->Abn fit m N (R.t K) r s
def Afg (F:Fld) (G:Q->Prop) (m N L:Nat) (t0:Simp.Tab) (b:Bool) (t':Tb):Prop :=
 (F.stop=true/\t'.fl=true)\/(t'.fl=false/\TOk G m N t'/\∃ K,∃ R:Simp.Run m N L K,R.t 0=t0/\R.t K=tabV t'/\(b=true->∀ j,j<L->0<=(tabV t').c j)/\(b=false->∃ s,s<L/\(tabV t').c s<0/\∀ i,i<m->(tabV t').T i s<=0))
theorem TOk.flag {t:Tb} (h:TOk G m N t) (f:Bool):TOk G m N { t with fl:=f }:=⟨h.rows,h.basis,h.cost,h.rowW,h.okr,h.okc⟩
theorem Ua {n:Nat} {t:Tb} (h1:F.stop=true) (h2:t.fl=true):Gu F (n+1) t=some (true,t):=by
 rw [Gu,h1,h2]; rfl
theorem Aau (hE:F.Exact G) {t0:Simp.Tab} (hs:Safe F G m N L t0):∀ (n:Nat) {K:Nat} (R:Simp.Run m N L K) {t:Tb},R.t 0=t0->R.t K=tabV t->TOk G m N t->t.real=L->t.fl=false->N ^ m+1<=n+K->∃ b t',Gu F n t=some (b,t')/\Afg F G m N L t0 b t'
 | 0,K,R,t,h0,hK,ht,hL,jh,hn=>by have:=R.short; omega
 | n+1,K,R,t,h0,hK,ht,hL,jh,hn=>by
  have a3l:=R.short
  have hLN:=R.LN
  have ey:=Af5 hE ht.okc (n:=t.real) (k:=0) (by rw [ht.cost]; omega)
  have e0:¬ (F.stop && t.fl)=true:=by rw [jh]; simp
  rw [Gu,if_neg e0]
  cases hc:colF t.cost t.real 0 with
  | none =>
   rw [hc] at ey
   refine ⟨true,t,rfl,.inr ⟨jh,ht,K,R,h0,hK,fun _ j hj=>ey j (Nat.zero_le _) (by omega),fun h=>by cases h⟩⟩
  | some c =>
   rw [hc] at ey
   obtain ⟨-,hcL,hneg,a1d⟩:=ey
   simp only
   have hcN:c<N+1:=by omega
   have m8:Bl F t c=Bs F t.basis c (N+1) 0 t.rows none:=by unfold Bl; rw [ht.cost]
   have dt:Kx G N c (tabV t) 0 none:=fun i hi=>by omega
   cases hle:Bl F t c with
   | mk o f =>
   have hlx:f=false->Kx G N c (tabV t) m o:=fun hf=>by
    have:=W0 hE ht hcN (l:=t.rows) (k:=0) (b:=none) rfl (Nat.zero_le _) dt (by rw [<- m8,hle]; exact hf)
    rw [<- m8,hle] at this
    exact this
   have hlf:F.stop=false->f=false:=fun aj=>by
    rcases hs with hs|⟨fit,hT,hs⟩
    ·rw [hs] at aj; cases aj
    ·have:=T9 hE hT ht hcN (by rw [<- hK]; exact (hs K R h0).1 c (by omega)) (l:=t.rows) (k:=0) (b:=none) rfl (Nat.zero_le _) dt
     rw [<- m8,hle] at this
     exact this
   cases o with
   | none =>
    simp only
    refine ⟨false,_,rfl,?_⟩
    cases f with
    | true =>
     cases aj:F.stop with
     | true=>exact .inl ⟨aj,by simp⟩
     | false=>have:=hlf aj; cases this
    | false =>
     refine .inr ⟨by simp [jh],ht.flag _,K,R,h0,hK,fun h=>(by cases h),fun _=>⟨c,by omega,hneg,hlx rfl⟩⟩
   | some p =>
    obtain ⟨i,q⟩:=p
    simp only
    have a0g:F.stop=true->(Dq F { t with fl:=t.fl || f } i c).fl=true->∃ b t',Gu F n (Dq F { t with fl:=t.fl || f } i c)=some (b,t')/\Afg F G m N L t0 b t':=fun h1 h2=>by
     obtain ⟨n',rfl⟩:∃ n',n=n'+1:=⟨n - 1,by omega⟩
     exact ⟨true,_,Ua h1 h2,.inl ⟨h1,h2⟩⟩
    cases f with
    | true =>
     cases aj:F.stop with
     | true=>exact a0g aj (by simp [Dq])
     | false=>have:=hlf aj; cases this
    | false =>
     obtain ⟨l1,l2,l3,l4,l5⟩:=hlx rfl
     have ht':=ht.flag (t.fl || false)
     have h0':(tabV { t with fl:=t.fl || false }).T i c≠0:=by
      show (tabV t).T i c≠0
      grind
     have pp:Simp.Step m N L (R.t K) i c:=by
      rw [hK]
      exact ⟨l1,by omega,hneg,fun j hj=>a1d j (Nat.zero_le _) hj,l2,fun i' au hp=>(l5 i' au hp).1,fun i' au hp=>(l5 i' au hp).2⟩
     cases hpf:(Dq F { t with fl:=t.fl || false } i c).fl with
     | true =>
      cases aj:F.stop with
      | true=>exact a0g aj hpf
      | false =>
       rcases hs with hs|⟨fit,hT,hs⟩
       ·rw [hs] at aj; cases aj
       ·have:=Acd hE hT ht' l1 hcN h0' (by simp [jh]) (by
         show Abn fit m N (tabV t) i c
         rw [<- hK]
         exact (hs K R h0).2 i c l1 (by omega) (by rw [hK]; exact h0'))
        rw [hpf] at this; cases this
     | false =>
      obtain ⟨x1,x2⟩:=Adx hE ht' l1 hcN h0' hpf
      refine Aau hE hs n (R.more pp) (t:=Dq F { t with fl:=t.fl || false } i c) ?_ ?_ x1 hL hpf (by omega)
      ·rw [R.more_old pp (Nat.zero_le _)]; exact h0
      ·rw [R.more_last pp,x2,hK]; rfl
end
end
section
open Go
def Ints (m N M Mc:Nat) (t0:Simp.Tab):Prop:=(∀ i j,i<m->j<N+1->∃ z:Int,t0.T i j=((z:Int):Rat)/\z.natAbs<=M)/\∀ j,j<N+1->∃ z:Int,t0.c j=((z:Int):Rat)/\z.natAbs<=Mc
structure Reach (m N:Nat) (t0 t:Simp.Tab):Prop where
 fit:Simp.Fit m N t
 ker:∀ x,Simp.Ker m N t0 x->Simp.Ker m N t x
 cost:∀ x,Simp.Ker m N t0 x->Simp.dot N t.c x=Simp.dot N t0.c x
def bndX (m M Mc:Nat):Nat:=(2*((m+1)*M)) ^ m+(m+1)*(Mc*(2*((m+1)*M)) ^ m)
section
variable {m N L M Mc X:Nat} {t0 t:Simp.Tab}
theorem Reach.piv (h:Reach m N t0 t) {r s:Nat} (hr:r<m) (hs:s<N) (hp:t.T r s≠0):Reach m N t0 (Simp.piv t r s) :=
 ⟨Simp.piv_fit h.fit hr hs hp,fun x hx=>(Simp.piv_ker hr hp x).2 (h.ker x hx),fun x hx=>by rw [Simp.piv_cost hr (h.ker x hx)]; exact h.cost x hx⟩
theorem Reach.run {K:Nat} (R:Simp.Run m N L K):Reach m N (R.t 0) (R.t K) :=
 ⟨R.fits K (Nat.le_refl _),fun x hx=>(R.ker (Nat.zero_le _) (Nat.le_refl _) x).2 hx,fun x hx=>R.cost (Nat.zero_le _) (Nat.le_refl _) hx⟩
theorem Lw (hM:1<=M) (hI:Ints m N M Mc t0) (h:Reach m N t0 t) {j:Nat} (hj:j<N+1) :
  ∃ y0:Int,y0≠0/\y0.natAbs<=bndX m M Mc/\(∀ i,i<m->∃ y:Int,t.T i j=((y:Int):Rat) / ((y0:Int):Rat)/\y.natAbs<=bndX m M Mc)/\∃ w:Int,t.c j=((w:Int):Rat) / ((y0:Int):Rat)/\w.natAbs<=bndX m M Mc:=by
 obtain ⟨z8,hI2⟩:=hI
 obtain ⟨a,ha⟩:∃ a:Nat->Nat->Int,∀ i j,i<m->j<N+1->t0.T i j=((a i j:Int):Rat)/\(a i j).natAbs<=M :=
  ⟨fun i j=>if h:i<m/\j<N+1 then Classical.choose (z8 i j h.1 h.2) else 0,fun i j hi hj=>by
   dsimp only; rw [dif_pos ⟨hi,hj⟩]; exact Classical.choose_spec (z8 i j hi hj)⟩
 obtain ⟨a0,td⟩:∃ a0:Nat->Int,∀ j,j<N+1->t0.c j=((a0 j:Int):Rat)/\(a0 j).natAbs<=Mc :=
  ⟨fun j=>if h:j<N+1 then Classical.choose (hI2 j h) else 0,fun j hj=>by
   dsimp only; rw [dif_pos hj]; exact Classical.choose_spec (hI2 j hj)⟩
 obtain ⟨y0,h1,h2,h3,w,h4,h5⟩:=Simp.small hM ha td h.fit h.ker h.cost hj
 refine ⟨y0,h1,Nat.le_trans h2 (Nat.le_add_right _ _),fun i hi=>?_,w,h4,Nat.le_trans h5 (Nat.le_add_left _ _)⟩
 obtain ⟨y,e1,e2⟩:=h3 i hi
 exact ⟨y,e1,Nat.le_trans e2 (Nat.le_add_right _ _)⟩
theorem Aem {a b:Nat} (h:a<=X) (hb:b<=X):a*b<=X*X:=Nat.mul_le_mul h hb
theorem Ud {n d:Int} (hd:d≠0) (h1:n.natAbs<=X) (h2:d.natAbs<=X) (hX:2*(X*X)<10000 ^ 200):Ut (((n:Int):Rat) / ((d:Int):Rat)):=by
 have h3:X<=X*X:=Nat.le_mul_self X
 exact ⟨n,d,hd,rfl,by omega,by omega⟩
theorem Ahl {n d n' d':Int} (hd:d≠0) (ev:d'≠0) (h1:n.natAbs<=X) (h2:d.natAbs<=X) (h3:n'.natAbs<=X) (h4:d'.natAbs<=X) (hX:2*(X*X)<10000 ^ 200):Ut (((n:Int):Rat) / ((d:Int):Rat)*(((n':Int):Rat) / ((d':Int):Rat))):=by
 have k1:=Aem h1 h3
 have k2:=Aem h2 h4
 refine ⟨n*n',d*d',Int.mul_ne_zero hd ev,?_,?_,?_⟩
 ·rw [Rat.intCast_mul,Rat.intCast_mul]; exact (H1 (Gi hd) (Gi ev)).symm
 ·rw [Int.natAbs_mul]; omega
 ·rw [Int.natAbs_mul]; omega
theorem Anf {n d n' d':Int} (hd:d≠0) (ev:d'≠0) (h1:n.natAbs<=X) (h2:d.natAbs<=X) (h3:n'.natAbs<=X) (h4:d'.natAbs<=X) (hX:2*(X*X)<10000 ^ 200):Ut (((n:Int):Rat) / ((d:Int):Rat) - ((n':Int):Rat) / ((d':Int):Rat)):=by
 have k1:=Aem h1 h4
 have k2:=Aem h3 h2
 have k3:=Aem h2 h4
 refine ⟨n*d' - n'*d,d*d',Int.mul_ne_zero hd ev,?_,?_,?_⟩
 ·rw [Rat.intCast_sub,Rat.intCast_mul,Rat.intCast_mul,Rat.intCast_mul]; exact (N6 (Gi hd) (Gi ev)).symm
 ·have:=Int.natAbs_sub_le (n*d') (n'*d)
  rw [Int.natAbs_mul,Int.natAbs_mul] at this
  omega
 ·rw [Int.natAbs_mul]; omega
theorem V2 (hM:1<=M) (hI:Ints m N M Mc t0) (hX:2*(bndX m M Mc*bndX m M Mc)<10000 ^ 200) (h:Reach m N t0 t) {r s:Nat} (hr:r<m) (hs:s<N) (hp:t.T r s≠0):Abn Ut m N t r s:=by
 have hq:=h.piv hr hs hp
 have e1:∀ j,(Simp.piv t r s).T r j=t.T r j / t.T r s:=fun j=>if_pos rfl
 have e2:∀ i j,i≠r->(Simp.piv t r s).T i j=t.T i j - t.T i s*(t.T r j / t.T r s):=fun i j hi=>if_neg hi
 have e3:∀ j,(Simp.piv t r s).c j=t.c j - t.c s*(t.T r j / t.T r s):=fun j=>rfl
 obtain ⟨z0,c1,c2,c3,w,c4,c5⟩:=Lw hM hI h (j:=s) (by omega)
 refine ⟨fun j hj=>?_,fun i j hi hj=>?_,fun i j hi hj yo=>?_,fun j hj=>?_,fun j hj=>?_⟩
 all_goals obtain ⟨y0,b1,b2,b3,u,b4,b5⟩:=Lw hM hI hq hj
 ·obtain ⟨y,y1,y2⟩:=b3 r hr
  rw [e1] at y1
  rw [y1]; exact Ud b1 y2 b2 hX
 ·obtain ⟨y,y1,y2⟩:=b3 r hr
  obtain ⟨z,z1,z2⟩:=c3 i hi
  rw [e1] at y1
  rw [y1,z1]; exact Ahl c1 b1 z2 c2 y2 b2 hX
 ·obtain ⟨y,y1,y2⟩:=b3 i hi
  rw [e2 i j yo] at y1
  rw [y1]; exact Ud b1 y2 b2 hX
 ·obtain ⟨y,y1,y2⟩:=b3 r hr
  rw [e1] at y1
  rw [y1,c4]; exact Ahl c1 b1 c5 c2 y2 b2 hX
 ·rw [e3] at b4
  rw [b4]; exact Ud b1 b5 b2 hX
theorem Rb (hM:1<=M) (hI:Ints m N M Mc t0) (hX:2*(bndX m M Mc*bndX m M Mc)<10000 ^ 200) (h:Reach m N t0 t) {c:Nat} (hc:c<N):P2 Ut m N c t:=by
 have key:∀ i,i<m->0<t.T i c->∃ y y0:Int,y0≠0/\y.natAbs<=bndX m M Mc/\y0.natAbs<=bndX m M Mc/\t.T i N / t.T i c=((y:Int):Rat) / ((y0:Int):Rat):=fun i hi hp=>by
  have hq:=h.piv hi hc (by grind)
  obtain ⟨y0,b1,b2,b3,-⟩:=Lw hM hI hq (j:=N) (by omega)
  obtain ⟨y,y1,y2⟩:=b3 i hi
  have e1:(Simp.piv t i c).T i N=t.T i N / t.T i c:=if_pos rfl
  exact ⟨y,y0,b1,y2,b2,by rw [<- e1,y1]⟩
 refine ⟨fun i hi hp=>?_,fun i k hi hk hp hq=>?_⟩
 ·obtain ⟨y,y0,a1,a2,a3,a4⟩:=key i hi hp
  rw [a4]; exact Ud a1 a2 a3 hX
 ·obtain ⟨y,y0,a1,a2,a3,a4⟩:=key i hi hp
  obtain ⟨z,z0,b1,b2,b3,b4⟩:=key k hk hq
  rw [a4,b4]; exact Anf a1 b1 a2 a3 b2 b3 hX
theorem Amq (hM:1<=M) (hI:Ints m N M Mc t0) (hX:2*(bndX m M Mc*bndX m M Mc)<10000 ^ 200):Safe wF gW m N L t0:=by
 refine .inr ⟨Ut,Aap,fun K R h0=>?_⟩
 have hr:=Reach.run R
 rw [h0] at hr
 exact ⟨fun c hc=>Rb hM hI hX hr (by have:=R.LN; omega),fun r s h1 h2 h3=>V2 hM hI hX hr h1 h2 h3⟩
theorem Alz:Safe qF okS m N L t0:=.inl rfl
end
end
section
open Go
def Mo (u:Rat) (vars:List ByteArray):List (ByteArray × Int)->(Nat->Rat)->Nat->Rat
 | [],f=>f
 | c :: cs,f=>Mo u vars cs fun j=>if j=2*idxV vars c.1+1 then -(u*((c.2:Int):Rat)) else if j=2*idxV vars c.1 then u*((c.2:Int):Rat) else f j
theorem K9 {u:Rat} {vars:List ByteArray} {k:Nat} : ∀ {cs:List (ByteArray × Int)} {f:Nat->Rat},(∀ c ∈ cs,idxV vars c.1≠k)->Mo u vars cs f (2*k)=f (2*k)/\Mo u vars cs f (2*k+1)=f (2*k+1)
 | [],_,_=>⟨rfl,rfl⟩
 | c :: cs,f,h=>by
  have h1:=h c (List.mem_cons_self ..)
  have ih:=K9 (u:=u) (cs:=cs) (f:=fun j=>if j=2*idxV vars c.1+1 then -(u*((c.2:Int):Rat)) else if j=2*idxV vars c.1 then u*((c.2:Int):Rat) else f j) fun c' hc=>h c' (List.mem_cons_of_mem _ hc)
  rw [Mo,ih.1,ih.2]
  exact ⟨by rw [if_neg (by omega),if_neg (by omega)],by rw [if_neg (by omega),if_neg (by omega)]⟩
theorem T1 {u:Rat} {vars:List ByteArray} {c:ByteArray × Int} : ∀ {cs:List (ByteArray × Int)} {f:Nat->Rat},(cs.map fun c=>idxV vars c.1).Pairwise (·≠·)->c ∈ cs->Mo u vars cs f (2*idxV vars c.1)=u*((c.2:Int):Rat)/\Mo u vars cs f (2*idxV vars c.1+1)=-(u*((c.2:Int):Rat))
 | [],_,_,h=>by cases h
 | c' :: cs,f,hp,h=>by
  rw [List.map_cons,List.pairwise_cons] at hp
  rw [Mo]
  rcases List.mem_cons.1 h with rfl|h
  ·have:=K9 (u:=u) (vars:=vars) (k:=idxV vars c.1) (cs:=cs) (f:=fun j=>if j=2*idxV vars c.1+1 then -(u*((c.2:Int):Rat)) else if j=2*idxV vars c.1 then u*((c.2:Int):Rat) else f j) fun c' hc=>(hp.1 _ (List.mem_map.2 ⟨c',hc,rfl⟩)).symm
   rw [this.1,this.2]
   exact ⟨by rw [if_neg (by omega),if_pos rfl],by rw [if_pos rfl]⟩
  ·exact T1 hp.2 h
theorem Rk {u:Rat} {vars:List ByteArray} {j:Nat} : ∀ {cs:List (ByteArray × Int)} {f:Nat->Rat},(∀ c ∈ cs,c.1 ∈ vars)->2*vars.length<=j->Mo u vars cs f j=f j
 | [],_,_,_=>rfl
 | c :: cs,f,h,hj=>by
  have h1:=(Lk (h c (List.mem_cons_self ..))).2
  rw [Mo,Rk (fun c' hc=>h c' (List.mem_cons_of_mem _ hc)) hj,if_neg (by omega),if_neg (by omega)]
def cofI (vars:List ByteArray):List (ByteArray × Int)->Nat->Int
 | [],_=>0
 | c :: cs,k=>if idxV vars c.1=k then c.2 else cofI vars cs k
theorem Q8 {vars:List ByteArray} {k:Nat} : ∀ {cs:List (ByteArray × Int)},(∀ c ∈ cs,idxV vars c.1≠k)->cofI vars cs k=0
 | [],_=>rfl
 | c :: cs,h=>by rw [cofI,if_neg (h c (List.mem_cons_self ..))]; exact Q8 fun c' hc=>h c' (List.mem_cons_of_mem _ hc)
theorem Xj {vars:List ByteArray} {c:ByteArray × Int} : ∀ {cs:List (ByteArray × Int)},(cs.map fun c=>idxV vars c.1).Pairwise (·≠·)->c ∈ cs->cofI vars cs (idxV vars c.1)=c.2
 | [],_,h=>by cases h
 | c' :: cs,hp,h=>by
  rw [List.map_cons,List.pairwise_cons] at hp
  rcases List.mem_cons.1 h with rfl|h
  ·rw [cofI,if_pos rfl]
  ·rw [cofI,if_neg (hp.1 _ (List.mem_map.2 ⟨c,h,rfl⟩))]
   exact Xj hp.2 h
theorem Aao {vars:List ByteArray} {k:Nat} : ∀ {cs:List (ByteArray × Int)},cofI vars cs k=0\/∃ c ∈ cs,c.2=cofI vars cs k/\idxV vars c.1=k
 | []=>.inl rfl
 | c :: cs=>by
  rw [cofI]
  split
  ·rename_i h; exact .inr ⟨c,List.mem_cons_self ..,rfl,h⟩
  ·rcases Aao (vars:=vars) (k:=k) (cs:=cs) with h|⟨c',h1,h2,h3⟩
   ·exact .inl h
   ·exact .inr ⟨c',List.mem_cons_of_mem _ h1,h2,h3⟩
theorem M0 {u:Rat} {vars:List ByteArray} {cs:List (ByteArray × Int)} (hp:(cs.map fun c=>idxV vars c.1).Pairwise (·≠·)) (k:Nat):Mo u vars cs (fun _=>0) (2*k)=u*((cofI vars cs k:Int):Rat)/\Mo u vars cs (fun _=>0) (2*k+1)=-(u*((cofI vars cs k:Int):Rat)):=by
 by_cases h:∃ c ∈ cs,idxV vars c.1=k
 ·obtain ⟨c,hc,rfl⟩:=h
  rw [Xj hp hc]
  exact T1 hp hc
 ·have h':∀ c ∈ cs,idxV vars c.1≠k:=fun c hc e=>h ⟨c,hc,e⟩
  rw [Q8 h',(K9 h').1,(K9 h').2,Rat.intCast_zero]
  exact ⟨by grind,by grind⟩
section
variable {F:Fld} {G:Q->Prop} {fit:Rat->Prop}
theorem Aax {l:List Q} {i j:Nat} {x y q:Q} (hl:∀ q ∈ l,G q) (hx:G x) (hy:G y) (h:q ∈ put (put l i x) j y):G q:=by
 rcases Ja h with rfl|h
 ·exact hy
 ·rcases Ja h with rfl|h
  ·exact hx
  ·exact hl q h
theorem Wb (hE:F.Exact G) {u z:Q} {vars:List ByteArray} (hu:G u) (hz:G z) (hz0:qv z=0):∀ {cs:List (ByteArray × Int)} {row:List Q} {f:Nat->Rat},(∀ c ∈ cs,i64 c.2/\c.1 ∈ vars)->2*vars.length<=row.length->(∀ q ∈ row,G q)->(∀ j,qv (at_ q0 row j)=f j)->(coefsC F u z vars cs row).2=false ->
  (coefsC F u z vars cs row).1.length=row.length/\(∀ q ∈ (coefsC F u z vars cs row).1,G q)/\∀ j,qv (at_ q0 (coefsC F u z vars cs row).1 j)=Mo (qv u) vars cs f j
 | [],row,f,_,_,hg,hf,_=>⟨rfl,hg,hf⟩
 | c :: cs,row,f,hc,hl,hg,hf,jh=>by
  obtain ⟨hi,hm⟩:=hc c (List.mem_cons_self ..)
  have nh:=(Lk hm).2
  simp only [coefsC,setC,Bool.or_eq_false_iff] at jh
  obtain ⟨⟨⟨f1,f2⟩,f3⟩,f4⟩:=jh
  have w:=hE.whole c.2 hi f1
  have t:=hE.times u _ hu w.1 f2
  have d:=hE.minus z _ hz t.1 f3
  have ih:=Wb hE hu hz hz0 (cs:=cs) (row:=put (put row (2*idxV vars c.1) (F.times u (F.whole c.2).1).1) (2*idxV vars c.1+1) (F.minus z (F.times u (F.whole c.2).1).1).1)
   (f:=fun j=>if j=2*idxV vars c.1+1 then -(qv u*((c.2:Int):Rat)) else if j=2*idxV vars c.1 then qv u*((c.2:Int):Rat) else f j)
   (fun c' h=>hc c' (List.mem_cons_of_mem _ h)) (by rw [Ak,Ak]; exact hl) (fun q h=>Aax hg t.1 d.1 h) (fun j=>by
    rw [N8 (by rw [Ak]; omega),N8 (by omega)]
    split
    ·rw [d.2,t.2,w.2,hz0]; grind
    ·split
     ·rw [t.2,w.2]
     ·exact hf j) f4
  rw [Ak,Ak] at ih
  exact ih
theorem T4 (hE:F.Exact G) (hT:F.Total G fit) {u z:Q} {vars:List ByteArray} (hu:G u) (hz:G z) (hz0:qv z=0):∀ {cs:List (ByteArray × Int)} {row:List Q},(∀ c ∈ cs,i64 c.2/\fit (qv u*((c.2:Int):Rat))/\fit (0 - qv u*((c.2:Int):Rat)))->(coefsC F u z vars cs row).2=false
 | [],_,_=>rfl
 | c :: cs,row,hc=>by
  obtain ⟨hi,h1,h2⟩:=hc c (List.mem_cons_self ..)
  have f1:=hT.whole c.2 hi
  have w:=hE.whole c.2 hi f1
  have f2:=hT.times u _ hu w.1 (by rw [w.2]; exact h1)
  have t:=hE.times u _ hu w.1 f2
  have f3:=hT.minus z _ hz t.1 (by rw [t.2,w.2,hz0]; exact h2)
  simp only [coefsC,setC,Bool.or_eq_false_iff]
  exact ⟨⟨⟨f1,f2⟩,f3⟩,T4 hE hT hu hz hz0 fun c' h=>hc c' (List.mem_cons_of_mem _ h)⟩
def sgR (r:RowT):Rat:=if 0<r.2.1 then -1 else 1
def rowR (vars:List ByteArray) (real W i slack:Nat) (r:RowT) (j:Nat):Rat :=
 if j=W - 1 then -(sgR r*((r.2.1:Int):Rat)) else if j=real+i then 1 else if r.2.2=false/\j=slack then sgR r else Mo (sgR r) vars r.1 (fun _=>0) j
theorem Ah1 {z:Q} (hz:qv z=0) {n j:Nat} : qv (at_ q0 (List.replicate n z) j)=0:=by
 by_cases h:j<n
 ·have:at_ q0 (List.replicate n z) j=z:=by
   unfold at_
   rw [Ae,List.getElem?_replicate,if_pos h]; rfl
  rw [this,hz]
 ·rw [Aes (by rw [List.length_replicate]; omega),Ada]
theorem Z9 (hE:F.Exact G) {r:RowT} (hf:(Jr F (D2 r)).2=false):G (Jr F (D2 r)).1/\qv (Jr F (D2 r)).1=sgR r:=by
 unfold Jr D2 sgR at *
 by_cases h:0<r.2.1
 ·simp only [decide_eq_true_eq,h,if_true,Bool.or_eq_false_iff] at hf ⊢
  have:=hE.whole (-1) (by unfold i64; omega) hf.2
  exact ⟨this.1,this.2.trans rfl⟩
 ·simp only [decide_eq_true_eq,h,if_false] at hf ⊢
  have:=hE.whole 1 (by unfold i64; omega) hf
  exact ⟨this.1,this.2.trans rfl⟩
theorem Ahj (hT:F.Total G fit) {b:Bool} : (Jr F b).2=false:=by
 unfold Jr
 split
 ·simp only [hT.whole 1 (by unfold i64; omega),hT.whole (-1) (by unfold i64; omega)]; rfl
 ·exact hT.whole 1 (by unfold i64; omega)
theorem Ah8 (hE:F.Exact G) {z:Q} {vars:List ByteArray} (hz:G z) (hz0:qv z=0) {real W i slack:Nat} {r:RowT} (hi:i64 r.2.1) (hc:∀ c ∈ r.1,i64 c.2/\c.1 ∈ vars) (hv:2*vars.length<=real) (dj:real+i<W - 1) (hs:r.2.2=false->slack<W) (hf:(rowF F z vars real W i slack r).2=false) :
  (rowF F z vars real W i slack r).1.length=W/\(∀ q ∈ (rowF F z vars real W i slack r).1,G q)/\∀ j,qv (at_ q0 (rowF F z vars real W i slack r).1 j)=rowR vars real W i slack r j:=by
 simp only [rowF,Ri,Bool.or_eq_false_iff] at hf
 obtain ⟨⟨⟨f1,f2⟩,f3⟩,⟨f4,f5⟩,f6⟩:=hf
 obtain ⟨gu,eu⟩:=Z9 hE f1
 obtain ⟨a1,a2,a3⟩:=Wb hE gu hz hz0 (f:=fun _=>0) hc (by rw [List.length_replicate]; omega) (fun q h=>by rw [(List.mem_replicate.1 h).2]; exact hz) (fun j=>Ah1 hz0) f2
 rw [List.length_replicate] at a1
 have o:=hE.whole 1 (by unfold i64; omega) f3
 have w:=hE.whole _ hi f4
 have t:=hE.times _ _ gu w.1 f5
 have d:=hE.minus z _ hz t.1 f6
 have hsl:(M9 r.2.2 (coefsC F (Jr F (D2 r)).1 z vars r.1 (List.replicate W z)).1 slack (Jr F (D2 r)).1).length=W/\(∀ q ∈ M9 r.2.2 (coefsC F (Jr F (D2 r)).1 z vars r.1 (List.replicate W z)).1 slack (Jr F (D2 r)).1,G q)/\∀ j,qv (at_ q0 (M9 r.2.2 (coefsC F (Jr F (D2 r)).1 z vars r.1 (List.replicate W z)).1 slack (Jr F (D2 r)).1) j)=if r.2.2=false/\j=slack then sgR r else Mo (sgR r) vars r.1 (fun _=>0) j:=by
  unfold M9
  cases he:r.2.2 with
  | true =>
   rw [if_pos rfl]
   exact ⟨a1,a2,fun j=>by rw [if_neg (by simp),a3,eu]⟩
  | false =>
   rw [if_neg (by simp)]
   refine ⟨by rw [Ak]; exact a1,fun q h=>?_,fun j=>?_⟩
   ·rcases Ja h with rfl|h
    ·exact gu
    ·exact a2 q h
   ·rw [N8 (by rw [a1]; exact hs he)]
    by_cases e:j=slack
    ·rw [if_pos e,if_pos ⟨rfl,e⟩,eu]
    ·rw [if_neg e,if_neg (fun h=>e h.2),a3,eu]
 obtain ⟨b1,b2,b3⟩:=hsl
 refine ⟨?_,fun q h=>Aax b2 o.1 d.1 h,fun j=>?_⟩
 ·show (put (put _ _ _) _ _).length=W
  rw [Ak,Ak]; exact b1
 ·show qv (at_ q0 (put (put _ _ _) _ _) j)=_
  rw [N8 (by rw [Ak,b1]; omega),N8 (by rw [b1]; omega)]
  unfold rowR
  by_cases e1:j=W - 1
  ·rw [if_pos e1,if_pos e1]
   show qv (F.minus z (F.times (Jr F (D2 r)).1 (F.whole r.2.1).1).1).1=_
   rw [d.2,t.2,w.2,eu,hz0]; grind
  ·rw [if_neg e1,if_neg e1]
   by_cases e2:j=real+i
   ·rw [if_pos e2,if_pos e2,o.2]; rfl
   ·rw [if_neg e2,if_neg e2,b3]
theorem Akf (hE:F.Exact G) (hT:F.Total G fit) {z:Q} {vars:List ByteArray} (hz:G z) (hz0:qv z=0) {real W i slack:Nat} {r:RowT} (hi:i64 r.2.1) (hc:∀ c ∈ r.1,i64 c.2/\fit (sgR r*((c.2:Int):Rat))/\fit (0 - sgR r*((c.2:Int):Rat))) (hn:fit (sgR r*((r.2.1:Int):Rat))/\fit (0 - sgR r*((r.2.1:Int):Rat))):(rowF F z vars real W i slack r).2=false:=by
 have f1:=Ahj hT (b:=D2 r)
 obtain ⟨gu,eu⟩:=Z9 hE f1
 have f2:=T4 hE hT gu hz hz0 (vars:=vars) (cs:=r.1) (row:=List.replicate W z) (by rw [eu]; exact hc)
 have f3:=hT.whole 1 (by unfold i64; omega)
 have f4:=hT.whole _ hi
 have w:=hE.whole _ hi f4
 have f5:=hT.times _ _ gu w.1 (by rw [w.2,eu]; exact hn.1)
 have t:=hE.times _ _ gu w.1 f5
 have f6:=hT.minus z _ hz t.1 (by rw [t.2,w.2,eu,hz0]; exact hn.2)
 simp only [rowF,Ri,Bool.or_eq_false_iff]
 exact ⟨⟨⟨f1,f2⟩,f3⟩,⟨f4,f5⟩,f6⟩
theorem Ab9 (hE:F.Exact G) {real W:Nat} : ∀ {c r:List Q} {k:Nat},c.length=r.length->(∀ q ∈ c,G q)->(∀ q ∈ r,G q)->(costL F real W k c r).2=false->(∀ q ∈ (costL F real W k c r).1,G q)/\∀ j,qv (at_ q0 (costL F real W k c r).1 j)=if k+j<real\/k+j=W - 1 then qv (at_ q0 c j) - qv (at_ q0 r j) else qv (at_ q0 c j)
 | [],[],_,_,_,_,_=>⟨fun q h=>(by cases h),fun j=>by simp only [costL,Wa,Ada]; split <;> grind⟩
 | [],_ :: _,_,h,_,_,_=>by simp at h
 | _ :: _,[],_,h,_,_,_=>by simp at h
 | a :: c,b :: r,k,h,hc,hr,hf=>by
  have hx:(H8 F real W k a b).2=false/\(costL F real W (k+1) c r).2=false:=by simpa [costL] using hf
  have ih:=Ab9 hE (by simpa using h) (fun q h=>hc q (List.mem_cons_of_mem _ h)) (fun q h=>hr q (List.mem_cons_of_mem _ h)) hx.2
  have hs:G (H8 F real W k a b).1/\qv (H8 F real W k a b).1=if k<real\/k=W - 1 then qv a - qv b else qv a:=by
   have h1:=hx.1
   unfold H8 at h1 ⊢
   split
   ·rename_i hk
    rw [if_pos hk] at h1
    exact hE.minus a b (hc a (List.mem_cons_self ..)) (hr b (List.mem_cons_self ..)) h1
   ·exact ⟨hc a (List.mem_cons_self ..),rfl⟩
  refine ⟨fun q h=>?_,fun j=>?_⟩
  ·rcases List.mem_cons.1 h with rfl|h
   ·exact hs.1
   ·exact ih.1 q h
  ·cases j with
   | zero=>exact hs.2
   | succ j =>
    have:=ih.2 j
    rw [show k+1+j=k+(j+1) by omega] at this
    exact this
theorem X8 (hT:F.Total G fit) {real W:Nat} : ∀ {c r:List Q} {k:Nat},(∀ q ∈ c,G q)->(∀ q ∈ r,G q)->(∀ j,fit (qv (at_ q0 c j) - qv (at_ q0 r j)))->(costL F real W k c r).2=false
 | [],_,_,_,_,_=>by simp [costL]
 | _ :: _,[],_,_,_,_=>rfl
 | a :: c,b :: r,k,hc,hr,hf=>by
  have ih:=X8 hT (c:=c) (r:=r) (k:=k+1) (real:=real) (W:=W) (fun q h=>hc q (List.mem_cons_of_mem _ h)) (fun q h=>hr q (List.mem_cons_of_mem _ h)) fun j=>hf (j+1)
  have hs:(H8 F real W k a b).2=false:=by
   unfold H8
   split
   ·exact hT.minus a b (hc a (List.mem_cons_self ..)) (hr b (List.mem_cons_self ..)) (hf 0)
   ·rfl
  show ((H8 F real W k a b).2 || (costL F real W (k+1) c r).2)=false
  rw [hs,ih]; rfl
end
end
section
open Go
def rowX (vars:List ByteArray) (real W:Nat) (l:List RowT) (i j:Nat):Rat :=
 match nth l i with
 | some r=>rowR vars real W i (2*vars.length+neqs (l.take i)) r j
 | none=>0
theorem Ab0 {vars:List ByteArray} {real W:Nat} {l:List RowT} {r:RowT} {i j:Nat} (h:i<l.length):rowX vars real W (l++[r]) i j=rowX vars real W l i j:=by
 unfold rowX
 rw [Ae,Ae,List.getElem?_append_left h,List.take_append_of_le_length (by omega)]
theorem Aak {vars:List ByteArray} {real W:Nat} {l:List RowT} {r:RowT} {j:Nat} : rowX vars real W (l++[r]) l.length j=rowR vars real W l.length (2*vars.length+neqs l) r j:=by
 unfold rowX
 rw [Ae,List.getElem?_append_right (Nat.le_refl _),Nat.sub_self,List.take_append_of_le_length (Nat.le_refl _),List.take_length]; rfl
theorem Hd:∀ {l l':List RowT},neqs (l++l')=neqs l+neqs l'
 | [],l'=>by simp [neqs]
 | r :: l,l'=>by rw [List.cons_append,neqs,neqs,Hd]; omega
theorem Ady {α:Type} {d x:α} {l:List α} {i:Nat} : at_ d (l++[x]) i=if i=l.length then x else at_ d l i:=by
 unfold at_
 by_cases e:i=l.length
 ·subst e; rw [if_pos rfl,Ae,List.getElem?_append_right (Nat.le_refl _),Nat.sub_self]; rfl
 ·rw [if_neg e]
  by_cases h:i<l.length
  ·rw [Ae,Ae,List.getElem?_append_left h]
  ·rw [Ae,Ae,List.getElem?_eq_none (by simp; omega),List.getElem?_eq_none (by omega)]
structure BInv (G:Q->Prop) (vars:List ByteArray) (real W:Nat) (done:List RowT) (t:Tb):Prop where
 nr:t.rows.length=done.length
 nb:t.basis.length=done.length
 nc:t.cost.length=W
 rowW:∀ r ∈ t.rows,r.length=W
 okr:∀ r ∈ t.rows,∀ q ∈ r,G q
 okc:∀ q ∈ t.cost,G q
 vals:∀ i,i<done.length->∀ j,qv (at_ q0 (Bx t i) j)=rowX vars real W done i j
 costs:∀ j,qv (at_ q0 t.cost j)=if j<real\/j=W - 1 then - Simp.sum done.length (fun i=>rowX vars real W done i j) else 0
 bas:∀ i,i<done.length->at_ 0 t.basis i=real+i
 flips:t.flip=done.map D2
structure G6 (vars:List ByteArray) (r:RowT):Prop where
 c64:i64 r.2.1
 n64:∀ c ∈ r.1,i64 c.2
 mem:∀ c ∈ r.1,c.1 ∈ vars
 dis:(r.1.map fun c=>idxV vars c.1).Pairwise (·≠·)
section
variable {F:Fld} {G:Q->Prop} {fit:Rat->Prop} {vars:List ByteArray} {real W:Nat} {z:Q}
theorem BInv.step (hE:F.Exact G) (hz:G z) (hz0:qv z=0) {done:List RowT} {t:Tb} (h:BInv G vars real W done t) {r:RowT} (hr:G6 vars r) (hv:2*vars.length<=real) (dj:real+done.length<W - 1) (hs:r.2.2=false->2*vars.length+neqs done<real)
  (ha:(rowF F z vars real W done.length (2*vars.length+neqs done) r).2=false) (hcf:(costL F real W 0 t.cost (rowF F z vars real W done.length (2*vars.length+neqs done) r).1).2=false) (fl:Bool) :
  BInv G vars real W (done++[r]) { t with rows:=t.rows++[(rowF F z vars real W done.length (2*vars.length+neqs done) r).1],cost:=(costL F real W 0 t.cost (rowF F z vars real W done.length (2*vars.length+neqs done) r).1).1,basis:=t.basis++[real+done.length],flip:=t.flip++[D2 r],fl:=fl }:=by
 obtain ⟨a1,a2,a3⟩:=Ah8 hE hz hz0 hr.c64 (fun c hc=>⟨hr.n64 c hc,hr.mem c hc⟩) hv dj (fun e=>by have:=hs e; omega) ha
 obtain ⟨c1,c2⟩:=Ab9 hE (by rw [h.nc,a1]) h.okc a2 hcf
 refine ⟨by simp [h.nr],by simp [h.nb],by rw [Vs]; exact h.nc,fun q hq=>?_,fun q hq=>?_,c1,fun i hi j=>?_,fun j=>?_,fun i hi=>?_,by simp [h.flips]⟩
 ·rcases List.mem_append.1 hq with hq|hq
  ·exact h.rowW q hq
  ·rw [List.mem_singleton.1 hq]; exact a1
 ·rcases List.mem_append.1 hq with hq|hq
  ·exact h.okr q hq
  ·rw [List.mem_singleton.1 hq]; exact a2
 ·show qv (at_ q0 (at_ [] (t.rows++[_]) i) j)=_
  rw [Ady,h.nr]
  by_cases e:i=done.length
  ·subst e; rw [if_pos rfl,a3,Aak]
  ·rw [if_neg e,Ab0 (by simp at hi; omega)]
   exact h.vals i (by simp at hi; omega) j
 ·rw [c2,a3,h.costs,Nat.zero_add]
  by_cases e:j<real\/j=W - 1
  ·rw [if_pos e,if_pos e,if_pos e,List.length_append,List.length_singleton,Simp.sum,Aak]
   rw [Simp.sum_congr (g:=fun i=>rowX vars real W done i j) fun i hi=>Ab0 hi]
   grind
  ·rw [if_neg e,if_neg e,if_neg e]
 ·rw [Ady,h.nb]
  by_cases e:i=done.length
  ·subst e; rw [if_pos rfl]
  ·rw [if_neg e]
   exact h.bas i (by simp at hi; omega)
theorem Yz:∀ {l:List RowT} {i sl:Nat} {t:Tb},(begS F z vars real W l i sl t).fl=false->t.fl=false
 | [],_,_,_,h=>h
 | r :: l,i,sl,t,h=>by
  rw [begS] at h
  have h1:=Yz h
  simp only [Bool.or_eq_false_iff] at h1
  exact h1.1.1
theorem Afr (hE:F.Exact G) (hz:G z) (hz0:qv z=0) (hv:2*vars.length<=real):∀ {rest done:List RowT} {t:Tb},(∀ r ∈ rest,G6 vars r)->2*vars.length+neqs (done++rest)<=real->real+(done++rest).length<W->BInv G vars real W done t->(begS F z vars real W rest done.length (2*vars.length+neqs done) t).fl=false ->
  BInv G vars real W (done++rest) (begS F z vars real W rest done.length (2*vars.length+neqs done) t)
 | [],done,t,_,_,_,h,_=>by rw [List.append_nil]; exact h
 | r :: rest,done,t,hr,hq,hw,h,hf=>by
  rw [begS] at hf ⊢
  have h1:=Yz hf
  simp only [Bool.or_eq_false_iff] at h1
  have kz:2*vars.length+neqs done+((if r.2.2=true then 0 else 1)+neqs rest)<=real:=by rw [Hd,neqs] at hq; omega
  have hw':real+done.length+(rest.length+1)<W:=by simp at hw; omega
  have st:=h.step hE hz hz0 (hr r (List.mem_cons_self ..)) hv (by omega) (fun e=>by rw [e] at kz; simp at kz; omega) h1.1.2 h1.2 ((t.fl || (rowF F z vars real W done.length (2*vars.length+neqs done) r).2) || (costL F real W 0 t.cost (rowF F z vars real W done.length (2*vars.length+neqs done) r).1).2)
  have e1:(if r.2.2=true then 2*vars.length+neqs done else 2*vars.length+neqs done+1)=2*vars.length+neqs (done++[r]):=by
   rw [Hd,neqs,neqs]; split <;> omega
  have e2:done.length+1=(done++[r]).length:=by simp
  have e3:done++r :: rest=(done++[r])++rest:=by simp
  rw [e1,e2] at hf ⊢
  rw [e3] at hq hw ⊢
  exact Afr hE hz hz0 hv (fun r' h'=>hr r' (List.mem_cons_of_mem _ h')) hq hw st hf
structure Hf (M:Nat) (r:RowT):Prop where
 one:1<=M
 con:r.2.1.natAbs<=M
 cof:∀ c ∈ r.1,c.2.natAbs<=M
theorem Jp {M:Nat} (r:RowT) {n:Int} (h:n.natAbs<=M):(∃ w:Int,sgR r*((n:Int):Rat)=((w:Int):Rat)/\w.natAbs<=M)/\∃ w:Int,-(sgR r*((n:Int):Rat))=((w:Int):Rat)/\w.natAbs<=M:=by
 unfold sgR
 split
 ·exact ⟨⟨-n,by rw [Rat.intCast_neg]; grind,by omega⟩,⟨n,by grind,h⟩⟩
 ·exact ⟨⟨n,by grind,h⟩,⟨-n,by rw [Rat.intCast_neg]; grind,by omega⟩⟩
theorem Z6 {M i slack:Nat} {r:RowT} (hr:G6 vars r) (hs:Hf M r) (j:Nat):∃ w:Int,rowR vars real W i slack r j=((w:Int):Rat)/\w.natAbs<=M:=by
 have h1:=hs.one
 unfold rowR
 split
 ·exact (Jp r hs.con).2
 ·split
  ·exact ⟨1,rfl,by simpa using h1⟩
  ·split
   ·obtain ⟨w,e,h⟩:=(Jp (M:=M) r (n:=1) (by simpa using h1)).1
    exact ⟨w,by rw [<- e,Rat.intCast_one]; grind,h⟩
   ·have hc:∀ k,(cofI vars r.1 k).natAbs<=M:=fun k=>by
     rcases Aao (vars:=vars) (k:=k) (cs:=r.1) with h|⟨c,h2,h3,-⟩
     ·rw [h]; simp
     ·rw [<- h3]; exact hs.cof c h2
    rcases Nat.mod_two_eq_zero_or_one j with h|h
    ·have e:j=2*(j / 2):=by omega
     rw [e,(M0 hr.dis _).1]
     exact (Jp r (hc _)).1
    ·have e:j=2*(j / 2)+1:=by omega
     rw [e,(M0 hr.dis _).2]
     exact (Jp r (hc _)).2
theorem Y3 {M:Nat} {f:Nat->Rat} : ∀ {n:Nat},(∀ i,i<n->∃ w:Int,f i=((w:Int):Rat)/\w.natAbs<=M)->∃ w:Int,Simp.sum n f=((w:Int):Rat)/\w.natAbs<=n*M
 | 0,_=>⟨0,rfl,by simp⟩
 | n+1,h=>by
  obtain ⟨w,e,hw⟩:=Y3 (n:=n) fun i hi=>h i (by omega)
  obtain ⟨u,e2,hu⟩:=h n (by omega)
  exact ⟨w+u,by rw [Simp.sum,e,e2,Rat.intCast_add],by rw [Nat.succ_mul]; omega⟩
theorem Vb {M:Nat} {l:List RowT} (hl:∀ r ∈ l,G6 vars r/\Hf M r) (i j:Nat):∃ w:Int,rowX vars real W l i j=((w:Int):Rat)/\w.natAbs<=M:=by
 unfold rowX
 cases h:nth l i with
 | none=>exact ⟨0,rfl,by simp⟩
 | some r =>
  have:=hl r (Al h)
  exact Z6 this.1 this.2 j
theorem Aav (hE:F.Exact G) (hT:F.Total G fit) (hz:G z) (hz0:qv z=0) (hv:2*vars.length<=real) {M B:Nat} (ff:∀ w:Int,w.natAbs<=B->fit ((w:Int):Rat)):∀ {rest done:List RowT} {t:Tb},(∀ r ∈ done++rest,G6 vars r/\Hf M r)->((done++rest).length+1)*M<=B->2*vars.length+neqs (done++rest)<=real->real+(done++rest).length<W->BInv G vars real W done t->t.fl=false ->
  (begS F z vars real W rest done.length (2*vars.length+neqs done) t).fl=false
 | [],done,t,_,_,_,_,_,hf=>hf
 | r :: rest,done,t,hr,hB,hq,hw,h,hf=>by
  obtain ⟨r1,r2⟩:=hr r (by simp)
  have hM:M<=B:=Nat.le_trans (Nat.le_mul_of_pos_left M (Nat.succ_pos _)) hB
  have hw':real+done.length+(rest.length+1)<W:=by simp at hw; omega
  have kz:2*vars.length+neqs done+((if r.2.2=true then 0 else 1)+neqs rest)<=real:=by rw [Hd,neqs] at hq; omega
  have fz:∀ n:Int,n.natAbs<=M->fit (sgR r*((n:Int):Rat))/\fit (0 - sgR r*((n:Int):Rat)):=fun n hn=>by
   obtain ⟨⟨w,e,hw⟩,u,e2,hu⟩:=Jp r hn
   refine ⟨by rw [e]; exact ff w (by omega),?_⟩
   rw [show (0:Rat) - sgR r*((n:Int):Rat)=-(sgR r*((n:Int):Rat)) by grind,e2]
   exact ff u (by omega)
  have f1:=Akf hE hT hz hz0 (vars:=vars) (real:=real) (W:=W) (i:=done.length) (slack:=2*vars.length+neqs done) r1.c64 (fun c hc=>⟨r1.n64 c hc,fz c.2 (r2.cof c hc)⟩) (fz _ r2.con)
  obtain ⟨a1,a2,a3⟩:=Ah8 hE hz hz0 r1.c64 (fun c hc=>⟨r1.n64 c hc,r1.mem c hc⟩) hv (by omega) (fun e=>by rw [e] at kz; simp at kz; omega) f1
  have te:(done.length+1)*M<=B:=Nat.le_trans (Nat.mul_le_mul_right M (by simp)) hB
  have f2:(costL F real W 0 t.cost (rowF F z vars real W done.length (2*vars.length+neqs done) r).1).2=false:=by
   refine X8 hT h.okc a2 fun j=>?_
   rw [a3,h.costs]
   obtain ⟨u,e2,hu⟩:=Z6 (real:=real) (W:=W) (i:=done.length) (slack:=2*vars.length+neqs done) r1 r2 j
   split
   ·obtain ⟨w,e,hw⟩:=Y3 (M:=M) (n:=done.length) (f:=fun i=>rowX vars real W done i j) fun i _=>Vb (fun r je=>hr r (by simp [je])) i j
    rw [e,e2]
    rw [show -((w:Int):Rat) - ((u:Int):Rat)=((-w - u:Int):Rat) by rw [Rat.intCast_sub,Rat.intCast_neg]]
    refine ff _ ?_
    rw [Nat.succ_mul] at te
    omega
   ·rw [e2,show (0:Rat) - ((u:Int):Rat)=((-u:Int):Rat) by rw [Rat.intCast_neg]; grind]
    exact ff _ (by omega)
  have st:=h.step hE hz hz0 r1 hv (by omega) (fun e=>by rw [e] at kz; simp at kz; omega) f1 f2 ((t.fl || (rowF F z vars real W done.length (2*vars.length+neqs done) r).2) || (costL F real W 0 t.cost (rowF F z vars real W done.length (2*vars.length+neqs done) r).1).2)
  have e1:(if r.2.2=true then 2*vars.length+neqs done else 2*vars.length+neqs done+1)=2*vars.length+neqs (done++[r]):=by
   rw [Hd,neqs,neqs]; split <;> omega
  have e2:done.length+1=(done++[r]).length:=by simp
  have e3:done++r :: rest=(done++[r])++rest:=by simp
  rw [begS,e1,e2]
  rw [e3] at hq hw hr hB
  exact Aav hE hT hz hz0 hv ff hr hB hq hw st (by simp only [hf,f1,f2]; rfl)
theorem Xt (hE:F.Exact G) {l:List RowT} (hr:∀ r ∈ l,G6 vars r) (hf:(Bj F l vars false).fl=false):BInv G vars (2*vars.length+neqs l) (2*vars.length+neqs l+l.length+1) l (Bj F l vars false):=by
 unfold Bj at hf ⊢
 have h0:=Yz hf
 simp only [Bool.false_or] at h0
 have w:=hE.whole 0 (by unfold i64; omega) h0
 refine Afr hE w.1 w.2 (Nat.le_add_right _ _) (rest:=l) (done:=[]) hr (by simp) (by simp) ?_ hf
 refine ⟨rfl,rfl,by simp,fun r h=>(by cases h),fun r h=>(by cases h),fun q h=>?_,fun i h=>(by simp at h),fun j=>?_,fun i h=>(by simp at h),rfl⟩
 ·rw [(List.mem_replicate.1 h).2]; exact w.1
 ·rw [Ah1 w.2]
  split
  ·show (0:Rat)=- 0
   grind
  ·rfl
theorem Adl (hE:F.Exact G) (hT:F.Total G fit) {l:List RowT} {M B:Nat} (ff:∀ w:Int,w.natAbs<=B->fit ((w:Int):Rat)) (hr:∀ r ∈ l,G6 vars r/\Hf M r) (hB:(l.length+1)*M<=B):(Bj F l vars false).fl=false:=by
 have h0:=hT.whole 0 (by unfold i64; omega)
 have w:=hE.whole 0 (by unfold i64; omega) h0
 unfold Bj
 refine Aav hE hT w.1 w.2 (Nat.le_add_right _ _) ff (rest:=l) (done:=[]) hr hB (by simp) (by simp) ?_ (by simp only [h0]; rfl)
 refine ⟨rfl,rfl,by simp,fun r h=>(by cases h),fun r h=>(by cases h),fun q h=>?_,fun i h=>(by simp at h),fun j=>?_,fun i h=>(by simp at h),rfl⟩
 ·rw [(List.mem_replicate.1 h).2]; exact w.1
 ·rw [Ah1 w.2]
  split
  ·show (0:Rat)=- 0
   grind
  ·rfl
end
end
section
open Go
def linV (v:ByteArray->Rat):List (ByteArray × Int)->Rat
 | []=>0
 | c :: cs=>((c.2:Int):Rat)*v c.1+linV v cs
def valR (v:ByteArray->Rat) (r:RowT):Rat:=linV v r.1+((r.2.1:Int):Rat)
def Sat (v:ByteArray->Rat) (l:List RowT):Prop:=∀ r ∈ l,valR v r<=0/\(r.2.2=true->valR v r=0)
def rwA (l:List RowT) (i:Nat):RowT:=at_ ([],0,true) l i
def sysY (vars:List ByteArray) (l:List RowT):Simp.Sys:=⟨l.length,vars.length,fun i k=>((cofI vars (rwA l i).1 k:Int):Rat),fun i=>(((rwA l i).2.1:Int):Rat),fun i=>(rwA l i).2.2⟩
theorem Ahi {vars:List ByteArray} (v:Nat->Rat):∀ {cs:List (ByteArray × Int)},(∀ c ∈ cs,c.1 ∈ vars)->(cs.map fun c=>idxV vars c.1).Pairwise (·≠·)->(Simp.sum vars.length fun k=>((cofI vars cs k:Int):Rat)*v k)=linV (fun s=>v (idxV vars s)) cs
 | [],_,_=>by
  rw [Simp.sum_zero fun k _=>by show ((0:Int):Rat)*_=0; rw [Rat.intCast_zero]; grind]; rfl
 | c :: cs,hm,hp=>by
  have nh:=(Lk (hm c (List.mem_cons_self ..))).2
  rw [List.map_cons,List.pairwise_cons] at hp
  have ih:=Ahi v (fun c' h=>hm c' (List.mem_cons_of_mem _ h)) hp.2
  have hz:cofI vars cs (idxV vars c.1)=0:=Q8 fun c' h=>(hp.1 _ (List.mem_map.2 ⟨c',h,rfl⟩)).symm
  have e:∀ k,((cofI vars (c :: cs) k:Int):Rat)*v k=(if k=idxV vars c.1 then ((c.2:Int):Rat)*v k else 0)+((cofI vars cs k:Int):Rat)*v k:=fun k=>by
   rw [cofI]
   by_cases h:idxV vars c.1=k
   ·rw [if_pos h,if_pos h.symm,<- h,hz,Rat.intCast_zero]; grind
   ·rw [if_neg h,if_neg fun h'=>h h'.symm]; grind
  rw [Simp.sum_congr fun k _=>e k,Simp.sum_add,ih,Simp.sum_one nh]; rfl
theorem Tv {v v':ByteArray->Rat} : ∀ {cs:List (ByteArray × Int)},(∀ c ∈ cs,v c.1=v' c.1)->linV v cs=linV v' cs
 | [],_=>rfl
 | c :: cs,h=>by rw [linV,linV,h c (List.mem_cons_self ..),Tv fun c' h'=>h c' (List.mem_cons_of_mem _ h')]
theorem Ack {v v':ByteArray->Rat} {r:RowT} (h:∀ c ∈ r.1,v c.1=v' c.1):valR v r=valR v' r:=by unfold valR; rw [Tv h]
theorem Ae6 {vars:List ByteArray} {l:List RowT} (hr:∀ r ∈ l,G6 vars r) {i:Nat} (hi:i<l.length) (v:Nat->Rat):(sysY vars l).val v i=valR (fun s=>v (idxV vars s)) (rwA l i):=by
 have h:G6 vars (rwA l i):=hr _ (Hl (d:=([],0,true)) hi)
 unfold Simp.Sys.val valR
 show Simp.sum vars.length _+_=_
 rw [<- Ahi v h.mem h.dis]; rfl
theorem Am9 {vars:List ByteArray} {l:List RowT} (hr:∀ r ∈ l,G6 vars r):(∃ v,(sysY vars l).holds v)↔∃ v,Sat v l:=by
 constructor
 ·rintro ⟨v,hv⟩
  refine ⟨fun s=>v (idxV vars s),fun r h=>?_⟩
  obtain ⟨i,hi⟩:=List.getElem?_of_mem h
  have bg:=(List.getElem?_eq_some_iff.1 hi).1
  have hx:=hv i bg
  have e:rwA l i=r:=by unfold rwA at_; rw [Ae,hi]; rfl
  rw [Ae6 hr bg,e] at hx
  refine ⟨hx.1,fun he=>hx.2 ?_⟩
  show (rwA l i).2.2=true
  rw [e]; exact he
 ·rintro ⟨v,hv⟩
  refine ⟨fun k=>v (at_ ⟨#[]⟩ vars k),fun i hi=>?_⟩
  have hm:rwA l i ∈ l:=Hl hi
  have hx:=hv _ hm
  rw [Ae6 hr hi]
  have e:valR (fun s=>v (at_ ⟨#[]⟩ vars (idxV vars s))) (rwA l i)=valR v (rwA l i):=Ack fun c hc=>by
   have:=Y7 ((hr _ hm).mem c hc)
   unfold at_; rw [this]; rfl
  rw [e]; exact hx
structure Agree (m N:Nat) (t u:Simp.Tab):Prop where
 T:∀ i j,i<m->j<N+1->t.T i j=u.T i j
 c:∀ j,j<N+1->t.c j=u.c j
 B:∀ i,i<m->t.B i=u.B i
section
variable {m N L:Nat} {t u:Simp.Tab}
theorem Agree.dotT (h:Agree m N t u) {i:Nat} (hi:i<m) (x:Nat->Rat):Simp.dot N (t.T i) x=Simp.dot N (u.T i) x:=Simp.sum_congr fun j hj=>by rw [h.T i j hi hj]
theorem Agree.dotC (h:Agree m N t u) (x:Nat->Rat):Simp.dot N t.c x=Simp.dot N u.c x:=Simp.sum_congr fun j hj=>by rw [h.c j hj]
theorem Agree.ker (h:Agree m N t u) (x:Nat->Rat):Simp.Ker m N t x↔Simp.Ker m N u x:=by
 constructor <;> intro hk i hi
 ·rw [<- h.dotT hi]; exact hk i hi
 ·rw [h.dotT hi]; exact hk i hi
theorem Agree.fit (h:Agree m N t u) (hu:Simp.Fit m N u):Simp.Fit m N t:=by
 refine ⟨fun i hi=>by rw [h.B i hi]; exact hu.lt i hi,fun i k hi hk=>?_,fun k hk=>?_⟩
 ·rw [h.B k hk,h.T i _ hi (by have:=hu.lt k hk; omega)]; exact hu.unit i k hi hk
 ·rw [h.B k hk,h.c _ (by have:=hu.lt k hk; omega)]; exact hu.free k hk
theorem Aj1 {L' K:Nat} {R:Nat->Nat->Rat} {b:Nat->Rat} (Rn:Simp.Run m (L+m) L' K) (ha:Agree m (L+m) (Rn.t 0) (Simp.first m L R b)) (hL:L<=L')
  (a0a:(∀ j,j<L'->0<=(Rn.t K).c j)\/∃ s,s<L'/\(Rn.t K).c s<0/\∀ i,i<m->(Rn.t K).T i s<=0) :
  (Rn.t K).c (L+m)=0↔∃ x:Nat->Rat,(∀ j,j<L->0<=x j)/\∀ i,i<m->Simp.sum L (fun j=>R i j*x j)=b i:=by
 have hf:=Rn.fits K (Nat.le_refl _)
 have hr:=Rn.rights K (Nat.le_refl _)
 have hk:∀ x,Simp.Ker m (L+m) (Rn.t K) x↔Simp.Ker m (L+m) (Simp.first m L R b) x:=fun x=>(Rn.ker (Nat.zero_le _) (Nat.le_refl _) x).trans (ha.ker x)
 have hc:∀ x,Simp.Ker m (L+m) (Simp.first m L R b) x->Simp.dot (L+m) (Rn.t K).c x=Simp.dot (L+m) (Simp.first m L R b).c x:=fun x hx=>by
  rw [Rn.cost (Nat.zero_le _) (Nat.le_refl _) ((ha.ker x).2 hx),ha.dotC]
 refine Simp.phase hf hr hk hc ?_
 rcases a0a with h|⟨s,hs,hn,hp⟩
 ·exact fun j hj=>h j (by omega)
 ·exfalso
  have hLN:=Rn.LN
  obtain ⟨x,hx,hlt⟩:=Simp.least_none (L:=L+m) (f:=(Rn.t K).c) hf (Nat.le_refl _) hr (fun i hi hB=>by have:=hf.lt i hi; omega) (by omega) hn hp (fun i hi hB=>by have:=hf.lt i hi; omega) (fun _ _=>rfl) 0
  have hkx:=(hk x).1 hx.sol.ker
  rw [hc x hkx,Simp.first_cost hkx] at hlt
  have:=Simp.sum_nonneg (f:=fun i=>x (L+i)) (n:=m) fun i hi=>hx.sol.pos _ (by omega)
  grind
end
theorem Ws {l:List RowT} {i:Nat} (hi:i<l.length) (he:(rwA l i).2.2=false):neqs (l.take i)<neqs l:=by
 have h1:=Dp (Wu (d:=([],0,true)) hi)
 have h2:l=l.take (i+1)++l.drop (i+1):=(List.take_append_drop _ _).symm
 have h3:neqs l=neqs (l.take (i+1))+neqs (l.drop (i+1)):=by rw [<- Hd,<- h2]
 have qy:(at_ ([],0,true) l i:RowT).2.2=false:=he
 rw [h1,Hd,neqs,neqs,qy] at h3
 simp at h3
 omega
theorem Agn {l:List RowT} {i k:Nat} (h:i<=k):neqs (l.take i)<=neqs (l.take k):=by
 have h2:l.take k=(l.take k).take i++(l.take k).drop i:=(List.take_append_drop _ _).symm
 rw [h2,Hd,List.take_take,Nat.min_eq_left h]
 omega
theorem Aid {l:List RowT} {i k:Nat} (hi:i<l.length) (hk:k<l.length) (h1:(rwA l i).2.2=false) (h2:(rwA l k).2.2=false) (h:neqs (l.take i)=neqs (l.take k)):i=k:=by
 have key:∀ i k,i<l.length->(rwA l i).2.2=false->i<k->neqs (l.take i)<neqs (l.take k):=fun i k hi he zf=>by
  have s1:=Dp (Wu (d:=([],0,true)) hi)
  have h3:neqs (l.take (i+1))=neqs (l.take i)+1:=by
   have qy:(at_ ([],0,true) l i:RowT).2.2=false:=he
   rw [s1,Hd,neqs,neqs,qy]; simp
  have:=Agn (l:=l) (show i+1<=k by omega)
  omega
 rcases Nat.lt_trichotomy i k with h'|h'|h'
 ·have:=key i k hi h1 h'; omega
 ·exact h'
 ·have:=key k i hk h2 h'; omega
section
variable {vars:List ByteArray} {l:List RowT}
theorem Nm {real W i j:Nat} (hi:i<l.length):rowX vars real W l i j=rowR vars real W i (2*vars.length+neqs (l.take i)) (rwA l i) j:=by
 unfold rowX
 rw [Wu (d:=([],0,true)) hi]; rfl
theorem Qa {G:Q->Prop} {t:Tb} (hr:∀ r ∈ l,G6 vars r) (h:BInv G vars (2*vars.length+neqs l) (2*vars.length+neqs l+l.length+1) l t) :
  Agree l.length (2*vars.length+neqs l+l.length) (tabV t) (Simp.first l.length (2*vars.length+neqs l) (rowX vars (2*vars.length+neqs l) (2*vars.length+neqs l+l.length+1) l) fun i=>rowX vars (2*vars.length+neqs l) (2*vars.length+neqs l+l.length+1) l i (2*vars.length+neqs l+l.length)):=by
 refine ⟨fun i j hi hj=>?_,fun j hj=>?_,fun i hi=>?_⟩
 ·show qv (at_ q0 (Bx t i) j)=if j<2*vars.length+neqs l then _ else if j<2*vars.length+neqs l+l.length then (if j=2*vars.length+neqs l+i then 1 else 0) else _
  rw [h.vals i hi]
  split
  ·rfl
  ·rename_i h1
   have ho:=hr _ (Hl (d:=([],0,true)) hi)
   split
   ·rename_i h2
    rw [Nm hi]
    unfold rowR
    rw [if_neg (by omega)]
    split
    ·rfl
    ·rw [if_neg (fun h'=>by have:=Ws hi h'.1; omega)]
     exact Rk ho.mem (by omega)
   ·have:j=2*vars.length+neqs l+l.length:=by omega
    rw [this]
 ·show qv (at_ q0 t.cost j)=if j<2*vars.length+neqs l then _ else if j<2*vars.length+neqs l+l.length then 0 else _
  rw [h.costs]
  split
  ·split
   ·rfl
   ·rw [if_neg (by omega)]
    have:j=2*vars.length+neqs l+l.length:=by omega
    rw [this]
  ·rw [if_neg (by omega),if_pos (by omega)]
 ·exact h.bas i hi
theorem Ank (hr:∀ r ∈ l,G6 vars r):Simp.Cols (sysY vars l) (2*vars.length+neqs l) (fun i=>sgR (rwA l i)) (fun i=>2*vars.length+neqs (l.take i)) (rowX vars (2*vars.length+neqs l) (2*vars.length+neqs l+l.length+1) l) fun i=>rowX vars (2*vars.length+neqs l) (2*vars.length+neqs l+l.length+1) l i (2*vars.length+neqs l+l.length):=by
 have ho:∀ i,i<l.length->G6 vars (rwA l i):=fun i hi=>hr _ (Hl (d:=([],0,true)) hi)
 refine ⟨fun i hi=>?_,Nat.le_add_right _ _,fun i k hi hk=>?_,fun i k hi hk=>?_,fun i j hi h1 h2=>?_,fun i hi he=>?_,fun i k hi hk h1 h2 h3=>?_,fun i hi=>?_⟩
 ·unfold sgR; split <;> grind
 ·have hk':k<vars.length:=hk
  rw [Nm hi]
  unfold rowR
  rw [if_neg (by omega),if_neg (by omega),if_neg (fun h'=>by omega)]
  exact (M0 (ho i hi).dis k).1
 ·have hk':k<vars.length:=hk
  rw [Nm hi]
  unfold rowR
  rw [if_neg (by omega),if_neg (by omega),if_neg (fun h'=>by omega)]
  exact (M0 (ho i hi).dis k).2
 ·have y6:2*vars.length<=j:=h1
  rw [Nm hi]
  unfold rowR
  rw [if_neg (by omega),if_neg (by omega)]
  show _=if (rwA l i).2.2=false/\j=2*vars.length+neqs (l.take i) then _ else 0
  split
  ·rfl
  ·exact Rk (ho i hi).mem y6
 ·have:=Ws hi he
  exact ⟨Nat.le_add_right _ _,by omega⟩
 ·exact Aid hi hk h1 h2 (by omega)
 ·rw [Nm hi]
  unfold rowR
  rw [if_pos (by omega)]; rfl
theorem Yf {i:Nat} (hi:i<l.length):0<=rowX vars (2*vars.length+neqs l) (2*vars.length+neqs l+l.length+1) l i (2*vars.length+neqs l+l.length):=by
 rw [Nm hi]
 unfold rowR
 rw [if_pos (by omega)]
 unfold sgR
 split
 ·rename_i h
  have:(0:Rat)<(((rwA l i).2.1:Int):Rat):=Rat.intCast_pos.2 h
  grind
 ·rename_i h
  have:¬ (0:Rat)<(((rwA l i).2.1:Int):Rat):=fun h'=>h (Rat.intCast_pos.1 h')
  grind
variable {F:Fld} {G:Q->Prop}
theorem BInv.tok {real W N:Nat} {t:Tb} (h:BInv G vars real W l t) (hW:W=N+1):TOk G l.length N t:=⟨h.nr,h.nb,by rw [h.nc,hW],fun r hr=>by rw [h.rowW r hr,hW],h.okr,h.okc⟩
theorem Y2:(Bj F l vars false).real=2*vars.length+neqs l:=Mt.1
theorem Afl {t:Tb} (hr:∀ r ∈ l,G6 vars r) (h:BInv G vars (2*vars.length+neqs l) (2*vars.length+neqs l+l.length+1) l t):∃ R:Simp.Run l.length (2*vars.length+neqs l+l.length) (2*vars.length+neqs l) 0,R.t 0=tabV t:=by
 have ha:=Qa hr h
 exact ⟨Simp.Run.none (ha.fit (Simp.first_fit _ _ _ _)) (Nat.le_add_right _ _) (fun i hi=>by
  rw [ha.T i _ hi (by omega)]
  show 0<=if 2*vars.length+neqs l+l.length<2*vars.length+neqs l then _ else if 2*vars.length+neqs l+l.length<2*vars.length+neqs l+l.length then _ else _
  rw [if_neg (by omega),if_neg (by omega)]
  exact Yf hi),rfl⟩
theorem Agu (hE:F.Exact G) (hr:∀ r ∈ l,G6 vars r) (hb0:F.stop=true\/(Bj F l vars false).fl=false) (hs:Safe F G l.length (2*vars.length+neqs l+l.length) (2*vars.length+neqs l) (tabV (Bj F l vars false))) {n:Nat} (hn:(2*vars.length+neqs l+l.length) ^ l.length+1<=n) :
  ∃ b t',Gu F n (Bj F l vars false)=some (b,t')/\((F.stop=true/\t'.fl=true)\/(t'.fl=false/\TOk G l.length (2*vars.length+neqs l+l.length) t'/\∃ K,∃ R:Simp.Run l.length (2*vars.length+neqs l+l.length) (2*vars.length+neqs l) K,R.t 0=tabV (Bj F l vars false)/\R.t K=tabV t' /\
   Agree l.length (2*vars.length+neqs l+l.length) (R.t 0) (Simp.first l.length (2*vars.length+neqs l) (rowX vars (2*vars.length+neqs l) (2*vars.length+neqs l+l.length+1) l) fun i=>rowX vars (2*vars.length+neqs l) (2*vars.length+neqs l+l.length+1) l i (2*vars.length+neqs l+l.length)) /\
   ((∀ j,j<2*vars.length+neqs l->0<=(tabV t').c j)\/∃ s,s<2*vars.length+neqs l/\(tabV t').c s<0/\∀ i,i<l.length->(tabV t').T i s<=0))):=by
 cases hf:(Bj F l vars false).fl with
 | true =>
  rcases hb0 with aj|h
  ·obtain ⟨n',rfl⟩:∃ n',n=n'+1:=⟨n - 1,by omega⟩
   exact ⟨_,_,Ua aj hf,.inl ⟨aj,hf⟩⟩
  ·rw [hf] at h; cases h
 | false =>
  have hb:=Xt hE hr hf
  obtain ⟨R,h0⟩:=Afl hr hb
  obtain ⟨b,t',h1,h2⟩:=Aau hE hs n R h0 h0 (hb.tok rfl) Y2 hf (by omega)
  refine ⟨b,t',h1,?_⟩
  rcases h2 with h2|⟨h3,h4,K,R',h5,h6,h7,h8⟩
  ·exact .inl h2
  ·refine .inr ⟨h3,h4,K,R',h5,h6,by rw [h5]; exact Qa hr hb,?_⟩
   cases b with
   | true=>exact .inl (h7 rfl)
   | false=>exact .inr (h8 rfl)
theorem Ae9 (hE:F.Exact G) {m N:Nat} {t:Tb} (h:TOk G m N t):H5 t=true↔(tabV t).c N=0:=by
 have g:=h.okc _ (Hl (d:=q0) (k:=N) (l:=t.cost) (by rw [h.cost]; omega))
 unfold H5
 rw [h.cost,Nat.add_sub_cancel,beq_iff_eq,Mm (hE.pos _ g)]; rfl
theorem Adk (hE:F.Exact G) (hr:∀ r ∈ l,G6 vars r) {t':Tb} {K:Nat} (ht:TOk G l.length (2*vars.length+neqs l+l.length) t') (R:Simp.Run l.length (2*vars.length+neqs l+l.length) (2*vars.length+neqs l) K) (hK:R.t K=tabV t')
  (ha:Agree l.length (2*vars.length+neqs l+l.length) (R.t 0) (Simp.first l.length (2*vars.length+neqs l) (rowX vars (2*vars.length+neqs l) (2*vars.length+neqs l+l.length+1) l) fun i=>rowX vars (2*vars.length+neqs l) (2*vars.length+neqs l+l.length+1) l i (2*vars.length+neqs l+l.length)))
  (a0a:(∀ j,j<2*vars.length+neqs l->0<=(tabV t').c j)\/∃ s,s<2*vars.length+neqs l/\(tabV t').c s<0/\∀ i,i<l.length->(tabV t').T i s<=0):H5 t'=true↔∃ v,Sat v l:=by
 rw [Ae9 hE ht,<- Am9 hr,<- (Ank hr).solve,<- hK]
 rw [<- hK] at a0a
 exact Aj1 R ha (Nat.le_refl _) a0a
end
end
section
open Go
theorem Aeu {vars:List ByteArray} {r:RowT} (h:B1 r.1 r.2.1=0) (hm:∀ c ∈ r.1,c.1 ∈ vars):G6 vars r/\Hf 1000000000000 r:=by
 obtain ⟨h1,h2⟩:=Xm h
 have h3:=Agr h
 refine ⟨⟨by unfold i64; omega,fun c hc=>by have:=(h2 c hc).1; unfold i64; omega,hm,?_⟩,⟨by omega,h1,fun c hc=>(h2 c hc).1⟩⟩
 have key:∀ (cs:List (ByteArray × Int)),IncC cs->(∀ c ∈ cs,c.1 ∈ vars)->(cs.map fun c=>idxV vars c.1).Pairwise (·≠·):=by
  intro cs
  induction cs with
  | nil=>intro _ _; exact List.Pairwise.nil
  | cons c cs ih =>
   intro hi hm
   have hp:=List.pairwise_cons.1 (show (c.1 :: cs.map (·.1)).Pairwise (fun a b=>nm a<nm b) from hi)
   rw [List.map_cons]
   refine List.pairwise_cons.2 ⟨fun x hx e=>?_,ih hp.2 fun c' h=>hm c' (List.mem_cons_of_mem _ h)⟩
   obtain ⟨c',eh,rfl⟩:=List.mem_map.1 hx
   have e1:=Y7 (hm c (List.mem_cons_self ..))
   have e2:=Y7 (hm c' (List.mem_cons_of_mem _ eh))
   rw [e,e2] at e1
   simp only [Option.some.injEq] at e1
   have:=hp.1 c'.1 (List.mem_map.2 ⟨c',eh,rfl⟩)
   rw [e1] at this
   exact List.lt_irrefl _ this
 exact key _ h3 hm
theorem Adb {l:List RowT} {vars:List ByteArray} (h:Eu l=0) (hm:∀ r ∈ l,∀ c ∈ r.1,c.1 ∈ vars):∀ r ∈ l,G6 vars r/\Hf 1000000000000 r:=fun r hr=>Aeu (Jh h r hr) (hm r hr)
theorem Aco {G:Q->Prop} {vars:List ByteArray} {M:Nat} {l:List RowT} {t:Tb} (hr:∀ r ∈ l,G6 vars r/\Hf M r) (h:BInv G vars (2*vars.length+neqs l) (2*vars.length+neqs l+l.length+1) l t):Ints l.length (2*vars.length+neqs l+l.length) M (l.length*M) (tabV t):=by
 refine ⟨fun i j hi hj=>?_,fun j hj=>?_⟩
 ·obtain ⟨w,e,hw⟩:=Vb (real:=2*vars.length+neqs l) (W:=2*vars.length+neqs l+l.length+1) hr i j
  exact ⟨w,by rw [<- e]; exact h.vals i hi j,hw⟩
 ·show ∃ z:Int,qv (at_ q0 t.cost j)=_/\_
  rw [h.costs]
  split
  ·obtain ⟨w,e,hw⟩:=Y3 (M:=M) (n:=l.length) (f:=fun i=>rowX vars (2*vars.length+neqs l) (2*vars.length+neqs l+l.length+1) l i j) fun i _=>Vb hr i j
   exact ⟨-w,by rw [e,Rat.intCast_neg],by omega⟩
  ·exact ⟨0,rfl,by simp⟩
theorem Aha {m M:Nat} (hm:m<=13) (hM:M=1000000000000):2*(bndX m M (m*M)*bndX m M (m*M))<10000 ^ 200:=by
 subst hM
 have:∀ m,m<14->2*(bndX m 1000000000000 (m*1000000000000)*bndX m 1000000000000 (m*1000000000000))<10000 ^ 200:=by decide +kernel
 exact this m (by omega)
theorem Aed {w:Int} (h:w.natAbs<=14000000000000):Ut ((w:Int):Rat):=by
 refine ⟨w,1,by omega,by rw [Rat.intCast_one]; grind,?_,?_⟩
 ·have:14000000000000<10000 ^ 200:=by decide +kernel
  omega
 ·decide +kernel
theorem Agz {l:List RowT} {vars:List ByteArray} (hl:l.length<=13) (hr:∀ r ∈ l,G6 vars r/\Hf 1000000000000 r):(Bj wF l vars false).fl=false/\Safe wF gW l.length (2*vars.length+neqs l+l.length) (2*vars.length+neqs l) (tabV (Bj wF l vars false)):=by
 have hf:=Adl P5 Aap (fun w hw=>Aed hw) hr (Nat.mul_le_mul_right 1000000000000 (show l.length+1<=14 by omega))
 exact ⟨hf,Amq (M:=1000000000000) (Mc:=l.length*1000000000000) (by omega) (Aco hr (Xt P5 (fun r h=>(hr r h).1) hf)) (Aha hl rfl)⟩
structure Ajg (G:Q->Prop) (vars:List ByteArray) (l:List RowT) (t':Tb):Prop where
 fl:t'.fl=false
 ok:TOk G l.length (2*vars.length+neqs l+l.length) t'
 run:∃ K,∃ R:Simp.Run l.length (2*vars.length+neqs l+l.length) (2*vars.length+neqs l) K,R.t K=tabV t' /\
   Agree l.length (2*vars.length+neqs l+l.length) (R.t 0) (Simp.first l.length (2*vars.length+neqs l) (rowX vars (2*vars.length+neqs l) (2*vars.length+neqs l+l.length+1) l) fun i=>rowX vars (2*vars.length+neqs l) (2*vars.length+neqs l+l.length+1) l i (2*vars.length+neqs l+l.length))
 stop:(∀ j,j<2*vars.length+neqs l->0<=(tabV t').c j)\/∃ s,s<2*vars.length+neqs l/\(tabV t').c s<0/\∀ i,i<l.length->(tabV t').T i s<=0
def kMax (vars:List ByteArray) (l:List RowT):Nat:=(2*vars.length+neqs l+l.length) ^ l.length+1
theorem Afw {F:Fld} {G:Q->Prop} (hE:F.Exact G) {l:List RowT} {vars:List ByteArray} (hr:∀ r ∈ l,G6 vars r) (hb0:F.stop=true\/(Bj F l vars false).fl=false) (hs:Safe F G l.length (2*vars.length+neqs l+l.length) (2*vars.length+neqs l) (tabV (Bj F l vars false))) {K:Nat} (hK:kMax vars l<=K) :
  ∃ b t',Gu F K (Bj F l vars false)=some (b,t')/\((F.stop=true/\t'.fl=true)\/Ajg G vars l t'):=by
 obtain ⟨b,t',h1,h2⟩:=Agu hE hr hb0 hs hK
 refine ⟨b,t',h1,?_⟩
 rcases h2 with h2|⟨h3,h4,K',R,-,h5,h6,h7⟩
 ·exact .inl h2
 ·exact .inr ⟨h3,h4,⟨K',R,h5,h6⟩,h7⟩
theorem Ajg.feas {F:Fld} {G:Q->Prop} (hE:F.Exact G) {l:List RowT} {vars:List ByteArray} (hr:∀ r ∈ l,G6 vars r) {t':Tb} (h:Ajg G vars l t'):H5 t'=true↔∃ v,Sat v l:=by
 obtain ⟨K,R,h1,h2⟩:=h.run
 exact Adk hE hr h.ok R h1 h2 h.stop
def Aep (F:Fld) (G:Q->Prop) (vars:List ByteArray) (l:List RowT) (a:Ans):Prop :=
 ∃ t',Ajg G vars l t'/\a.f=H5 t'/\a.pt=(if H5 t'=true then (B6 F t').1.map F.rat else [])/\a.nu=(if H5 t'=true then [] else (Gw F t').1.map F.rat)/\(F.stop=true->H5 t'=true->(B6 F t').2=false)/\(F.stop=true->H5 t'=false->(Gw F t').2=false)
theorem T6 {F:Fld} {G:Q->Prop} (hE:F.Exact G) {l:List RowT} {vars:List ByteArray} (hr:∀ r ∈ l,G6 vars r) (hb0:F.stop=true\/(Bj F l vars false).fl=false) (hs:Safe F G l.length (2*vars.length+neqs l+l.length) (2*vars.length+neqs l) (tabV (Bj F l vars false))) {K:Nat} (hK:kMax vars l<=K) :
  ∃ a ok,G8 F K l vars false=some (a,ok)/\a.least=none/\(F.stop=false->ok=true)/\(ok=true->Aep F G vars l a):=by
 obtain ⟨b,t',h1,h2⟩:=Afw hE hr hb0 hs hK
 unfold G8
 rw [h1]
 simp only
 rcases h2 with ⟨s1,s2⟩|h2
 ·rw [if_pos (by rw [s1,s2]; rfl)]
  exact ⟨_,_,rfl,rfl,fun h=>(by rw [s1] at h; cases h),fun h=>(by cases h)⟩
 ·rw [if_neg (by rw [h2.fl]; simp)]
  cases hf:H5 t' with
  | true =>
   rw [if_pos rfl]
   refine ⟨_,_,rfl,rfl,fun h=>by rw [h]; rfl,fun h=>⟨t',h2,hf.symm,by rw [if_pos hf],by rw [if_pos hf],fun h' _=>?_,fun _ h'=>(by rw [hf] at h'; cases h')⟩⟩
   rw [h'] at h
   simpa [h2.fl] using h
  | false =>
   rw [if_neg (by simp)]
   refine ⟨_,_,rfl,rfl,fun h=>by rw [h]; rfl,fun h=>⟨t',h2,hf.symm,by rw [hf]; rfl,by rw [hf]; rfl,fun _ h'=>(by rw [hf] at h'; cases h'),fun h' _=>?_⟩⟩
   rw [h'] at h
   simpa [h2.fl] using h
theorem Aij {l:List RowT} {vars:List ByteArray} (hl:l.length<=13) (hr:∀ r ∈ l,G6 vars r/\Hf 1000000000000 r) {K:Nat} (hK:kMax vars l<=K) :
  ∃ a,askN K l vars=some a/\a.least=none/\(Aep qF okS vars l a\/Aep wF gW vars l a):=by
 have bw:∀ r ∈ l,G6 vars r:=fun r h=>(hr r h).1
 obtain ⟨a,ok,h1,h2,h3,h4⟩:=T6 Abu bw (.inl rfl) Alz hK
 unfold askN
 rw [h1]
 cases ok with
 | true=>exact ⟨a,rfl,h2,.inl (h4 rfl)⟩
 | false =>
  obtain ⟨s1,s2⟩:=Agz hl hr
  obtain ⟨a',ok',k1,k2,k3,k4⟩:=T6 P5 bw (.inr s1) s2 hK
  simp only [k1,Option.map_some]
  exact ⟨a',rfl,k2,.inr (k4 (k3 rfl))⟩
theorem Ai6 {l:List RowT} {vars:List ByteArray} (hr:∀ r ∈ l,G6 vars r) {a:Ans} (h:Aep qF okS vars l a\/Aep wF gW vars l a):a.f=true↔∃ v,Sat v l:=by
 rcases h with ⟨t',h1,h2,-⟩|⟨t',h1,h2,-⟩
 ·rw [h2]; exact h1.feas Abu hr
 ·rw [h2]; exact h1.feas P5 hr
end
section
open Go Go.Proofs.Tryz
def K0 (l:List RowT):Bool:=(l.all fun r=>decide (r.1.length<=30)) && (decide (l.length<=12) && decide ((Ahb l).length<=6))
section
variable (S:List Ent) (tk:List Nat) (k:Nat)
theorem Ah0 (l:List RowT) (hl:l.length<=9223372036854775807):cL prog 12 [Au l] S tk k=some (.bool (K0 l),S,tk,k):=by
 refine opP func12 ntmps12 (hp3:=rfl) ?_
 simp (maxSteps:=10^6)+contextual(disch:=try exact dqd)only[ev1,simprocAttr,AV.int,AV.bool,AV.str,results12,Au]
 refine loop1 (P:=prog) (fun x st=>st.T.length=26/\(x<=l.length)/\((l.take x).all (fun r=>decide (r.1.length<=30))=true)/\getT st.T 0=.frz (l.map rowC) .unk/\getT st.T 5=.frz (l.map rowC) .unk/\getT st.T 6=.int (l.length:Nat)/\getT st.T 7=.int (x:Nat)/\st.S=[]) (fun x=>l.length - x) (fun x=>.bool (K0 l)) (0) ?_ ?_
 case refine_2=>exact ⟨rfl,Nat.zero_le _,rfl,rfl,rfl,rfl,rfl,rfl⟩
 rintro i ⟨T,S',tk',n'⟩ ⟨hl,hi,hs,e0,e5,e6,e7,eS⟩ IH
 subst eS
 obtain ⟨g,hg,hT⟩:=Av hl
 rw [hg] at e0 e5 e6 e7
 subst hT
 clear hg hl
 by_cases la:i<l.length
 ·have jf:IntKind.i64.wrap ((i:Int)+1)=((i+1:Nat):Int):=by rw [Ad (by unfold i64; omega)]; rfl
  have d1:decide ((i:Int)<(l.length:Int))=true:=by simpa using la
  obtain ⟨r,hx⟩:=Ag la
  have hx':=H7 hx
  simp only [rowC,An] at hx'
  by_cases hr:r.1.length<=30
  ·have d6:(l.take (i+1)).all (fun r=>decide (r.1.length<=30))=true:=by
    rw [Dp hx,List.all_append,hs]; simp [hr]
   have d2:decide (((r.1.length:Nat):Int) > 30)=false:=by simp; omega
   simp (maxSteps:=10^6)+contextual(disch:=try exact dqd)only[ev1,simprocAttr,AV.int,AV.bool,AV.str,results12,e0,e5,e6,e7,d1,d2,hx',jf]
   exact IH (i+1) _ (by first|omega|(simp only; omega)) ⟨rfl,by first|omega|(dsimp only; omega),d6,(by first|rfl|simp only [getT,List.map_append,List.map_cons,List.map_nil,and_self]),(by first|rfl|simp only [getT,List.map_append,List.map_cons,List.map_nil,and_self]),(by first|rfl|simp only [getT,List.map_append,List.map_cons,List.map_nil,and_self]),(by first|rfl|simp only [getT,List.map_append,List.map_cons,List.map_nil,and_self]),(by first|rfl|simp only [getT,List.map_append,List.map_cons,List.map_nil,and_self])⟩
  ·have d2:decide (((r.1.length:Nat):Int) > 30)=true:=by simp; omega
   have hf:K0 l=false:=by
    have ha:¬ (l.all fun r=>decide (r.1.length<=30))=true:=fun h=>hr (by
     have:=List.all_eq_true.1 h r (by rw [Ae] at hx; exact List.mem_of_getElem? hx)
     simpa using this)
    unfold K0
    rw [Bool.not_eq_true] at ha
    rw [ha]; rfl
   rw [hf]
   simp (maxSteps:=10^6)+contextual(disch:=try exact dqd)only[ev1,simprocAttr,AV.int,AV.bool,AV.str,results12,e0,e5,e6,e7,d1,d2,hx']
 ·have d1:decide ((i:Int)<(l.length:Int))=false:=by simpa using la
  have ko:i=l.length:=by omega
  subst ko
  rw [List.take_length] at hs
  have dt:∀ r ∈ l,r.1.length<=1048576:=fun r h=>by have:=List.all_eq_true.1 hs r h; simp at this; omega
  by_cases h1:l.length<=12
  ·have d2:decide (((l.length:Nat):Int)<=12)=true:=by simp; omega
   have hV:=fun S tk k=>Af3 S tk k l dt
   have hf:K0 l=decide (((Ahb l).length:Int)<=6):=by
    unfold K0
    rw [hs]
    have:decide (l.length<=12)=true:=by simpa using h1
    rw [this]
    simp only [Bool.true_and]
    apply decide_eq_decide.2
    omega
   rw [hf]
   simp only [Au,Am] at hV
   simp (maxSteps:=10^6)+contextual(disch:=try exact dqd)only[ev1,simprocAttr,AV.int,AV.bool,AV.str,results12,e0,e5,e6,e7,d1,d2,hV]
  ·have d2:decide (((l.length:Nat):Int)<=12)=false:=by simp; omega
   have hf:K0 l=false:=by
    unfold K0
    have:decide (l.length<=12)=false:=by simpa using h1
    rw [this]; simp
   rw [hf]
   simp (maxSteps:=10^6)+contextual(disch:=try exact dqd)only[ev1,simprocAttr,AV.int,AV.bool,AV.str,results12,e0,e5,e6,e7,d1,d2]
end
theorem Aj8 {l:List RowT} (h:K0 l=true):(∀ r ∈ l,r.1.length<=30)/\l.length<=12/\(Ahb l).length<=6:=by
 simp only [K0,Bool.and_eq_true,decide_eq_true_eq,List.all_eq_true] at h
 exact ⟨h.1,h.2.1,h.2.2⟩
theorem Z1 {l:List RowT} (hl:l.length<=13) (h0:sysE l=0):∃ b:Bool,(b=true↔∃ v,Sat v l)/\∀ S tk k,cL prog 13 [Au l] S tk k=some (.tup [.bool b,.int 0],S,tk,k):=by
 obtain ⟨f1,f2,f3,f4⟩:=Gr h0
 have hr:=Adb (vars:=B8 l) f4 Ms
 obtain ⟨a,h1,h2,h3⟩:=Aij hl hr (Nat.le_refl _)
 refine ⟨a.f,Ai6 (fun r h=>(hr r h).1) h3,fun S tk k=>?_⟩
 have:=Pk S tk k l (fun r h=>by have:=Ju (Jh f4 r h); omega) (Abc f4) _ a (fun _=>⟨h1,h2⟩)
 rw [h0,if_pos rfl] at this
 exact this
def M5 (q:Int) (r:RowT):RowT:=(r.1.map (mulC q),r.2.1*q,r.2.2)
theorem Aab {v:ByteArray->Rat} {q:Int} : ∀ {cs:List (ByteArray × Int)},linV v (cs.map (mulC q))=linV v cs*(q:Rat)
 | []=>by simp [linV]
 | c :: cs=>by
  simp only [List.map_cons,linV,mulC]
  rw [Aab (cs:=cs)]
  push_cast
  grind
theorem Abm {v:ByteArray->Rat} {q:Int} {r:RowT} : valR v (M5 q r)=valR v r*(q:Rat):=by
 unfold valR M5
 simp only [Aab]
 push_cast
 grind
theorem Ab4 {l:List RowT} {q:Int} (hq:1<=q) {v:ByteArray->Rat} : Sat v ((l.map (M5 q)).reverse)↔Sat v l:=by
 have hq0:(0:Rat)<(q:Rat):=by exact_mod_cast (by omega:0<q)
 have key:∀ x:Rat,(x*(q:Rat)<=0↔x<=0)/\(x*(q:Rat)=0↔x=0):=fun x=>by
  constructor
  ·constructor
   ·intro h
    apply Rat.not_lt.1
    intro hx
    exact absurd (Rat.mul_pos hx hq0) (Rat.not_lt.2 h)
   ·intro h
    apply Rat.not_lt.1
    intro hx
    have h1:=Rat.mul_le_mul_of_nonneg_right h (Rat.le_of_lt hq0)
    rw [Rat.zero_mul] at h1
    exact absurd hx (Rat.not_lt.2 h1)
  ·constructor
   ·intro h
    rcases Rat.mul_eq_zero.1 h with h|h
    ·exact h
    ·rw [h] at hq0; exact absurd hq0 (Rat.lt_irrefl)
   ·intro h; rw [h,Rat.zero_mul]
 unfold Sat
 constructor
 ·intro h r hr
  have:=h (M5 q r) (List.mem_reverse.2 (List.mem_map.2 ⟨r,hr,rfl⟩))
  rw [Abm] at this
  exact ⟨(key _).1.1 this.1,fun e=>(key _).2.1 (this.2 e)⟩
 ·intro h r hr
  rw [List.mem_reverse,List.mem_map] at hr
  obtain ⟨s,hs,rfl⟩:=hr
  rw [Abm]
  exact ⟨(key _).1.2 (h s hs).1,fun e=>(key _).2.2 ((h s hs).2 e)⟩
theorem Al8 {v:ByteArray->Rat} {l:List RowT} {r:RowT} (h:Sat v (l++[r])):Sat v l:=fun x hx=>h x (List.mem_append.2 (.inl hx))
end
section
open Go
theorem Aff {l:List RowT} {x:ByteArray} : x ∈ Bm l↔∃ r ∈ l,∃ c ∈ r.1,c.1=x:=by
 unfold Bm
 simp only [List.mem_flatten,List.mem_map]
 constructor
 ·rintro ⟨_,⟨r,hr,rfl⟩,h⟩
  obtain ⟨c,hc,e⟩:=List.mem_map.1 h
  exact ⟨r,hr,c,hc,e⟩
 ·rintro ⟨r,hr,c,hc,e⟩
  exact ⟨_,⟨r,hr,rfl⟩,List.mem_map.2 ⟨c,hc,e⟩⟩
theorem Py {l:List RowT} {x:ByteArray} : x ∈ B8 l↔∃ r ∈ l,∃ c ∈ r.1,c.1=x:=((Jg (Bm l)).2.1 x).trans Aff
theorem P7 (l:List RowT):Inc (B8 l):=(Jg (Bm l)).1
theorem Afd {l r:List ByteArray} (hl:Inc l) (hr:Inc r) (h:∀ x ∈ l,x ∈ r):l.length<=r.length:=by
 classical
 have e:l=r.filter fun x=>decide (x ∈ l):=Ahv hl (List.Pairwise.filter _ hr) fun x=>by
  simp only [List.mem_filter,decide_eq_true_eq]
  exact ⟨fun hx=>⟨h x hx,hx⟩,fun hx=>hx.2⟩
 rw [e]
 exact List.length_filter_le ..
theorem Yn:∀ {l:List RowT},(∀ r ∈ l,B1 r.1 r.2.1=0)->Eu l=0
 | [],_=>rfl
 | r :: l,h=>by
  unfold Eu
  rw [h r (List.mem_cons_self ..)]
  simp only [bne_self_eq_false,Bool.false_eq_true,if_false]
  exact Yn fun x hx=>h x (List.mem_cons_of_mem _ hx)
theorem Alg {l:List RowT} (h1:l.length<=64) (h2:∀ r ∈ l,B1 r.1 r.2.1=0) (h3:(B8 l).length<=24):sysE l=0:=by
 unfold sysE
 rw [if_neg (by omega),Yn h2,if_neg (by simp),if_neg (by omega)]
theorem Aer {l:List RowT} {r:RowT} (h:sysE (l++[r])=0):sysE l=0:=by
 obtain ⟨-,f2,f3,f4⟩:=Gr h
 have ha:=Jh f4
 refine Alg (by simp at f2; omega) (fun x hx=>ha x (List.mem_append.2 (.inl hx))) ?_
 refine Nat.le_trans (Afd (P7 l) (P7 (l++[r])) fun x hx=>?_) f3
 obtain ⟨r',hr,hc⟩:=Py.1 hx
 exact Py.2 ⟨r',List.mem_append.2 (.inl hr),hc⟩
theorem Ae2 {q:Int} (hq:1<=q) {n m:Int} (hm:inB m=true):∀ {p:Option ByteArray} {cs:List (ByteArray × Int)},A1 n p cs=0->(∀ c ∈ cs,inB (c.2*q)=true)->A1 m p (cs.map (mulC q))=0
 | p,[],h,_=>by simp only [List.map_nil,A1,hm,if_true]
 | p,c :: cs,h,ha=>by
  unfold A1 at h
  split at h
  ·cases h
  ·rename_i g1
   split at h
   ·cases h
   ·rename_i g2
    split at h
    ·cases h
    ·rename_i g3
     have hb:=ha c (List.mem_cons_self ..)
     have hz:¬ (c.2*q == 0 || !inB (c.2*q))=true:=by
      rw [hb]
      simp only [Bool.not_true,Bool.or_false,beq_iff_eq]
      intro e
      rcases Int.mul_eq_zero.1 e with e|e
      ·simp [e] at g2
      ·omega
     show A1 m p ((c.1,c.2*q) :: cs.map (mulC q))=0
     unfold A1
     rw [if_neg g1,if_neg hz,if_neg g3]
     exact Ae2 hq hm h fun x hx=>ha x (List.mem_cons_of_mem _ hx)
theorem X4 {q:Int} (hq:1<=q) {cs:List (ByteArray × Int)} {n:Int} (h:B1 cs n=0) (hs:(Ej cs n q).2=true):B1 (cs.map (mulC q)) (n*q)=0/\Ej cs n q=((cs.map (mulC q),n*q),true):=by
 unfold Ej at hs ⊢
 split at hs
 ·rename_i hg
  rw [if_pos hg]
  refine ⟨?_,rfl⟩
  simp only [Bool.and_eq_true,List.all_eq_true] at hg
  unfold B1 at h ⊢
  split at h
  ·cases h
  ·rename_i h24
   rw [if_neg (by simpa using h24)]
   exact Ae2 hq hg.2 h hg.1
 ·cases hs
def Pj (q:Int) (l:List RowT) (i:Nat):List RowT:=(l.reverse.take i).map (M5 q)
theorem Ajc {q:Int} {l:List RowT} : Pj q l l.length=(l.map (M5 q)).reverse:=by
 unfold Pj
 rw [List.take_of_length_le (by simp),List.map_reverse]
theorem Aew {q:Int} {l:List RowT} {i:Nat} {r:RowT} (hi:i<l.length) (h:nth l (l.length - 1 - i)=some r):Pj q l (i+1)=Pj q l i++[M5 q r]:=by
 have:nth l.reverse i=some r:=by
  rw [Ae] at h ⊢
  rw [List.getElem?_reverse hi]; exact h
 unfold Pj
 rw [Dp this,List.map_append,List.map_cons,List.map_nil]
theorem Aix {q:Int} {l:List RowT} {i:Nat} : (Pj q l i).length<=l.length:=by simp [Pj]; omega
theorem Ai0 {q:Int} (hq:1<=q) {l:List RowT} (h:sysE l=0) (hs:∀ r ∈ l,(Ej r.1 r.2.1 q).2=true):sysE ((l.map (M5 q)).reverse)=0:=by
 obtain ⟨-,f2,f3,f4⟩:=Gr h
 have ha:=Jh f4
 refine Alg (by simpa using f2) (fun x hx=>?_) ?_
 ·obtain ⟨r,hr,rfl⟩:=List.mem_map.1 (List.mem_reverse.1 hx)
  exact (X4 hq (ha r hr) (hs r hr)).1
 ·refine Nat.le_trans (Afd (P7 _) (P7 l) fun x hx=>?_) f3
  obtain ⟨r',hr,c,hc,e⟩:=Py.1 hx
  obtain ⟨r,ae,rfl⟩:=List.mem_map.1 (List.mem_reverse.1 hr)
  obtain ⟨d,hd,rfl⟩:=List.mem_map.1 hc
  exact Py.2 ⟨r,ae,d,hd,e⟩
end
section
open Go Go.Proofs.Tryz
section
variable (S:List Ent) (tk:List Nat) (k:Nat)
theorem Vg {S:List Ent} {tk:List Nat} {k:Nat} {A:List (List AV)} {c:Cap} : cL prog 12 [.frz A c] S tk k=cL prog 12 [.frz A .unk] S tk k/\cL prog 8 [.frz A c] S tk k=cL prog 8 [.frz A .unk] S tk k/\cL prog 13 [.frz A c] S tk k=cL prog 13 [.frz A .unk] S tk k:=⟨Q0 rfl rfl rfl,Q0 rfl rfl rfl,Q0 rfl rfl rfl⟩
def Alq (A:List (List AV)) (b:Bool):Prop:=∀ c S tk k,cL prog 13 [.frz A c] S tk k=some (.tup [.bool b,.int 0],S,tk,k)
set_option maxRecDepth 100000 in
set_option maxHeartbeats 4000000 in
theorem Pi (l:List RowT) (hl:l.length<=3518437208880) (r:RowT) (q:Int) (hq0:0<=q/\q<256):cL prog 5 [Au l,.agg (rowC r),.prim (.int .u8 q)] S tk k=some (.bool true,S,tk,k):=by
 have hA:=fun S tk k=>Ad2 S tk k
 obtain ⟨A,eA⟩:∃ A,A=l++[r]:=⟨_,rfl⟩
 have lA:A.length=l.length+1:=by rw [eA]; simp
 have up:=fun tk=>Aa8 (tk:=tk) (c:=.tight) (es:=[]) (ys:=l.map rowC) rfl rfl (Jb l) (by simp; omega)
 have jd:=fun tk=>Aj0 (tk:=Ey tk .tight) (c:=Bb tk .tight 3) (es:=l.map rowC) (y:=rowC r) (Bv rfl) (Jb l) rfl (by simp; omega)
 have e1:l.map rowC++[rowC r]=A.map rowC:=by rw [eA]; simp
 rw [e1] at jd
 have yu:=fun c S tk k=>(Vg (S:=S) (tk:=tk) (k:=k) (c:=c)).1.trans (Ah0 S tk k A (by omega))
 simp only [rowC,An,List.nil_append] at up jd
 by_cases hs:K0 A=true
 case neg =>
  rw [Bool.not_eq_true] at hs
  rw [hs] at yu
  refine opP func5 ntmps5 (hp3:=rfl) ?_
  simp (maxSteps:=10^6)+contextual(disch:=try exact dqd)only[ev1,simprocAttr,AV.int,AV.bool,AV.str,results5,Au,rowC,An,up,jd,yu,hA]
 rw [hs] at yu
 obtain ⟨s1,s2,s3⟩:=Aj8 hs
 have hC:=fun c S tk k=>(Vg (S:=S) (tk:=tk) (k:=k) (c:=c)).2.1.trans (Qy S tk k A (fun r h=>by have:=s1 r h; omega))
 by_cases h0:sysE A=0
 case neg =>
  have c1:(sysE A != 0)=true:=by simpa using h0
  refine opP func5 ntmps5 (hp3:=rfl) ?_
  simp (maxSteps:=10^6)+contextual(disch:=try exact dqd)only[ev1,simprocAttr,AV.int,AV.bool,AV.str,results5,Au,rowC,An,up,jd,yu,hC,c1,hA]
 rw [h0] at hC
 have z0:((0:Int) != 0)=false:=rfl
 by_cases h1:1<=q
 case neg =>
  have c1:decide (q<1)=true:=by simp; omega
  refine opP func5 ntmps5 (hp3:=rfl) ?_
  simp (maxSteps:=10^6)+contextual(disch:=try exact dqd)only[ev1,simprocAttr,AV.int,AV.bool,AV.str,results5,Au,rowC,An,up,jd,yu,hC,z0,c1,hA]
 have c1:decide (q<1)=false:=by simp; omega
 by_cases h9:q<=9
 case neg =>
  have c2:decide (q > 9)=true:=by simp; omega
  refine opP func5 ntmps5 (hp3:=rfl) ?_
  simp (maxSteps:=10^6)+contextual(disch:=try exact dqd)only[ev1,simprocAttr,AV.int,AV.bool,AV.str,results5,Au,rowC,An,up,jd,yu,hC,z0,c1,c2,hA]
 have c2:decide (q > 9)=false:=by simp; omega
 have h0l:sysE l=0:=Aer (eA ▸ h0)
 obtain ⟨b1,i1,f1⟩:=Z1 (by omega) h0l
 obtain ⟨b2,i2,f2⟩:=Z1 (by omega) h0
 have hF2:=fun c S tk k=>(Vg (S:=S) (tk:=tk) (k:=k) (c:=c)).2.2.trans (f2 S tk k)
 have hb:b2=false\/b2=true/\b1=true:=by
  cases e:b2
  ·exact .inl rfl
  ·obtain ⟨v,hv⟩:=i2.1 e
   rw [eA] at hv
   exact .inr ⟨rfl,i1.2 ⟨v,Al8 hv⟩⟩
 have hT:(∀ r ∈ A,(Ej r.1 r.2.1 q).2=true)->Alq ((Pj q A A.length).map rowC) b2:=fun h c S tk k=>by
  obtain ⟨b3,i3,f3⟩:=Z1 (by simp; omega) (Ai0 h1 h0 h)
  have e3:b3=b2:=by
   have:b3=true↔b2=true:=i3.trans (Iff.trans ⟨fun ⟨v,h⟩=>⟨v,(Ab4 h1).1 h⟩,fun ⟨v,h⟩=>⟨v,(Ab4 h1).2 h⟩⟩ i2.symm)
   exact Bool.eq_iff_iff.2 this
  rw [e3] at f3
  rw [Ajc]
  exact (Vg (S:=S) (tk:=tk) (k:=k) (c:=c)).2.2.trans (f3 S tk k)
 have bc:=Jh (Gr h0).2.2.2
 simp only [Au] at f1
 have hcv:IntKind.i64.wrap q=q:=Ad (by unfold i64; omega)
 clear i1 i2 f2
 rcases hb with hb|⟨hb,rfl⟩
 all_goals
  have zz:∀ b:Bool,(b == b)=true:=fun b=>by simp
  refine opP func5 ntmps5 (hp3:=rfl) ?_
  simp (maxSteps:=10^6)+contextual(disch:=try exact dqd)only[ev1,simprocAttr,AV.int,AV.bool,AV.str,results5,Au,rowC,An,up,jd,yu,hC,z0,c1,c2,f1,hF2,hb]
  refine loop1 (P:=prog) (fun x st=>st.T.length=109/\(getT st.T 10=.prim (.bool x.2.2))/\((∀ w ∈ A,(Ej w.1 w.2.1 q).2=true)->Alq ((Pj q A A.length).map rowC) x.2.2)/\(x.1<=A.length)/\(Be st.tk x.2.1 3=true)/\(∀ w ∈ A.reverse.take x.1,(Ej w.1 w.2.1 q).2=true)/\getT st.T 2=.prim (.int .u8 q)/\getT st.T 7=.frz (A.map rowC) (Bb (Ey [] .tight) (Bb [] .tight 3) 3)/\getT st.T 12=.frz ((Pj q A x.1).map rowC) x.2.1/\getT st.T 57=.int (A.length:Nat)/\getT st.T 58=.int (x.1:Nat)/\st.S=[⟨0,rowC r⟩]) (fun x=>A.length - x.1) (fun x=>.bool true) (0,.nilc,b2) ?_ ?_
  case refine_2=>exact ⟨rfl,(by rw [hb]; rfl),hT,Nat.zero_le _,rfl,fun x h=>by simp at h,rfl,rfl,rfl,rfl,rfl,rfl⟩
  rintro ⟨i,c,b⟩ ⟨T,S',tk',n'⟩ ⟨hl,e10,hT',hi,ab,zr,e2,e7,e12,e57,e58,eS⟩ IH
  simp only at e10 hT' hi ab zr e2 e7 e12 e57 e58 eS
  subst eS
  obtain ⟨g,hg,hT⟩:=Av hl
  rw [hg] at e2 e7 e12 e57 e58
  subst hT
  clear hg hl
  replace e10:g 10=.prim (.bool b):=e10
  by_cases la:i<A.length
  ·have jf:IntKind.i64.wrap ((i:Int)+1)=((i+1:Nat):Int):=by rw [Ad (by unfold i64; omega)]; rfl
   have d1:decide ((i:Int)<(A.length:Int))=true:=by simpa using la
   have v1:IntKind.i64.wrap ((A.length:Int) - 1)=((A.length - 1:Nat):Int):=by rw [Ad (by unfold i64; omega)]; omega
   have v2:IntKind.i64.wrap (((A.length - 1:Nat):Int) - (i:Int))=((A.length - 1 - i:Nat):Int):=by rw [Ad (by unfold i64; omega)]; omega
   obtain ⟨y,hx⟩:=Ag (l:=A) (i:=A.length - 1 - i) (by omega)
   have hx':=H7 hx
   have hym:y ∈ A:=by rw [Ae] at hx; exact List.mem_of_getElem? hx
   have hS:=fun S tk k=>Agf S tk k y.1 y.2.1 q (bc y hym) h1 h9
   have mw:=Aew (q:=q) la hx
   have hr:=Jb (Pj q A i)
   have hn:((Pj q A i).map rowC).length+1<=1048576:=by have:=Aix (q:=q) (l:=A) (i:=i); simp; omega
   simp only [rowC,An] at hx'
   cases hsy:(Ej y.1 y.2.1 q).2 with
   | true =>
    have hsq:=(X4 h1 (bc y hym) hsy).2
    rw [hsq] at hS
    have dc:=Bv ab
    have a3m:∀ w ∈ A.reverse.take (i+1),(Ej w.1 w.2.1 q).2=true:=fun w hw=>by
     have ht:nth A.reverse i=some y:=by rw [Ae] at hx ⊢; rw [List.getElem?_reverse la]; exact hx
     rw [Dp ht,List.mem_append] at hw
     rcases hw with hw|hw
     ·exact zr w hw
     ·rw [List.mem_singleton.1 hw]; exact hsy
    simp only [linA,An] at hS
    simp (maxSteps:=10^6)+contextual(disch:=try exact dqd)only[ev1,simprocAttr,AV.int,AV.bool,AV.str,results5,e2,e7,e10,e12,e57,e58,d1,v1,v2,hx',hS,hcv,jf,rowC,An,hr]
    exact IH (i+1,Bb tk' c 3,b) _ (by first|omega|(simp only; omega)) ⟨rfl,rfl,hT',by first|omega|(dsimp only; omega),dc,a3m,(by first|rfl|simp only [getT,List.map_append,List.map_cons,List.map_nil,and_self,mw,rowC,An,M5]),(by first|rfl|simp only [getT,List.map_append,List.map_cons,List.map_nil,and_self,mw,rowC,An,M5]),(by first|rfl|simp only [getT,List.map_append,List.map_cons,List.map_nil,and_self,mw,rowC,An,M5]),(by first|rfl|simp only [getT,List.map_append,List.map_cons,List.map_nil,and_self,mw,rowC,An,M5]),(by first|rfl|simp only [getT,List.map_append,List.map_cons,List.map_nil,and_self,mw,rowC,An,M5]),(by first|rfl|simp only [getT,List.map_append,List.map_cons,List.map_nil,and_self,mw,rowC,An,M5])⟩
   | false =>
    rw [hsy] at hS
    simp only [linA,An] at hS
    simp (maxSteps:=10^6)+contextual(disch:=try exact dqd)only[ev1,simprocAttr,AV.int,AV.bool,AV.str,results5,e2,e7,e10,e12,e57,e58,d1,v1,v2,hx',hS,hcv,rowC,An,hA]
  ·have d1:decide ((i:Int)<(A.length:Int))=false:=by simpa using la
   have ko:i=A.length:=by omega
   subst ko
   have ar:=hT' fun x hx=>zr x (by rw [List.take_of_length_le (by simp)]; exact List.mem_reverse.2 hx)
   unfold Alq at ar
   simp (maxSteps:=10^6)+contextual(disch:=try exact dqd)only[ev1,simprocAttr,AV.int,AV.bool,AV.str,results5,e2,e7,e10,e12,e57,e58,d1,ar,zz b,hA]
end
end
end Go.Proofs.YtcjffhadclngmaaGreat
