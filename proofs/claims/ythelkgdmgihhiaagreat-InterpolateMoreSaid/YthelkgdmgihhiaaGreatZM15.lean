/- Part 15. -/
import Derived.Sort.OwnSorted
import Derived.Sort.Grow
import Derived.Lib.OwnBridge
import Derived.Laws.AppendOwn
import Derived.Laws.AppendOwnNone
import Derived.Lib.Hide
import Derived.Test.YthelkgdmgihhiaaGreatZM14
open Bool renaming and_eq_true->Cf,or_false->Fk,or_eq_true->Fz,not_eq_true'->F3
open Classical renaming byContradiction->Sz
open Go.Lib renaming hid->Cl
open Go.Proofs.YthelkgdmgihhiaaGreat.AV renaming int->Cg
open Go.RowKit.Below renaming refl->Fb
open Go.Value renaming oneCell'->fU
open Go.World renaming cell?->It
open Int renaming tdiv_eq_ediv_of_nonneg->C9,mul_comm->Fp,mul_assoc->F1,tmod_eq_emod_of_nonneg->F5,natAbs_mul->Ik,pow_succ->Iu,mul_add->I7,mul_zero->O1,mul_nonneg->O7,add_zero->Rv,natCast_nonneg->fL,neg_mul->fR,mul_sub->fT,add_assoc->gN,natCast_mul->iC
open List renaming replicate->Cd,length_cons->Ck,map_cons->Cm,mem_cons_of_mem->Cq,mem_append->Cr,nil_append->Ct,mem_cons_self->Cv,map_nil->Cw,all_eq_true->Cz,length_nil->C3,length_eq_zero_iff->C5,drop_eq_nil_of_le->Ff,drop_length->Fh,drop_zero->Fs,append_nil->Fu,getElem?_map->Fw,mem_map->Fy,length_map->Ib,mem_replicate->Ih,getElem?_take_of_lt->Iq,getElem?_take->Iw,length_pos_iff->I5,take_append_drop->I9,all_cons->Oc,map_congr_left->O3,getElem?_drop->O9,mem_of_mem_take->gZ,map_map->iH
open Nat renaming le_refl->Cb,zero_add->Fo,le_trans->Fv,mul_le_mul_right->F0,mul_one->Ia,lt_or_ge->Ic,add_zero->I1,mul_comm->I2,sub_self->I3,div_lt_iff_lt_mul->I8,pow_succ->Oj,mul_le_mul->Ot,div_add_mod->Oy,mod_eq_of_lt->O6,add_mul->O8,mod_lt->Sc,add_assoc->Si,mul_le_mul_left->S5,pow_pos->gY
open Ne renaming symm->Od
open Option renaming map_eq_some_iff->B6,map_some->Cu
open Option.some renaming injEq->A0
open Rat renaming intCast_mul->C6,intCast_neg->Oh,mul_nonneg->Sq,le_refl->Sr,intCast_add->Xb,intCast_inj->iB
namespace Go.Proofs.YthelkgdmgihhiaaGreat
open Go Tryz Go.RowKit Go.Sort
set_option maxHeartbeats 2000000
set_option maxRecDepth 100000
theorem Apz:(prog.info? 9).map (fun i=>(i.zero,i.size,i.bytes))=some (some (.string ⟨#[]⟩),1,16):=aK
theorem Aei (w:World):Calls prog 78 #[.slice none 0 0,.slice none 0 0] w fun e w'=>∃ a,e=.returned (.slice a 0 0)/\Below w.heap.size w w':=by
 go_enter func78,ntmps78;go_wp2_with (go_at_call 110; refine (Tryz.slices_Sort_string_none _ _ _).mono ?_; rintro e w' ⟨rfl,rfl⟩);go_wp2_with (go_at_call 111; refine (Tryz.slices_Compact_string_empty _ _ _).mono ?_; rintro e w' ⟨rfl,rfl⟩);go_ret;exact ⟨_,rfl,(Fb _ _).alloc (Cb _) _⟩
theorem Ai4 {w w1:World} {g cap n nn q:Nat} {os:Array Obj} {ss:List (List UInt8)} (hown:w1.ownsRow w.heap.size 9 1 (.slice (some ⟨g,0,none⟩) n cap) n (ss.map encStr)) (hbel:Below w.heap.size w w1) (hbg:w.heap.size<=g) (hlen:ss.length=n) :
  ∃ g' cap',(Ending.returned (.slice (some ⟨g,0,none⟩) (Lib.compact (ss.mergeSort fun x y=>decide (x<=y))).length cap))=.returned (.slice (some ⟨g',0,none⟩) (Lib.compact (ss.mergeSort fun x y=>decide (x<=y))).length cap') /\
   (putRow encStr (Sort.ahead (grow (putRow encStr (Sort.ahead w1 nn) g 0 (ss.mergeSort fun x y=>decide (x<=y)).toArray) os) q) g 0 (Lib.compact (ss.mergeSort fun x y=>decide (x<=y))++Cd (n - (Lib.compact (ss.mergeSort fun x y=>decide (x<=y))).length) []).toArray).ownsRow w.heap.size 9 1 (.slice (some ⟨g',0,none⟩) (Lib.compact (ss.mergeSort fun x y=>decide (x<=y))).length cap') (Lib.compact (ss.mergeSort fun x y=>decide (x<=y))).length ((Lib.compact (ss.mergeSort fun x y=>decide (x<=y))).map encStr) /\
   Below w.heap.size w (putRow encStr (Sort.ahead (grow (putRow encStr (Sort.ahead w1 nn) g 0 (ss.mergeSort fun x y=>decide (x<=y)).toArray) os) q) g 0 (Lib.compact (ss.mergeSort fun x y=>decide (x<=y))++Cd (n - (Lib.compact (ss.mergeSort fun x y=>decide (x<=y))).length) []).toArray):=by
 have hl2:(ss.mergeSort fun x y=>decide (x<=y)).length=ss.length:=List.length_mergeSort ss;have hle:=Lib.compact_length_le (ss.mergeSort fun x y=>decide (x<=y));subst hlen;rcases hown.2 with ⟨h0,_⟩|⟨g',cap',cur,hv,hbase,hb,h1,h2,h3,h4⟩
 ·cases h0
 cases hv;have hs:=ownsRow_sorted (n:=nn) (os:=os) (ts:=ss.mergeSort fun x y=>decide (x<=y)) hl2 hbase hb h1 h2 h3;have hc:=Lib.ownsRow_putRow (q:=q) (k:=(Lib.compact (ss.mergeSort fun x y=>decide (x<=y))).length) (ys:=Lib.compact (ss.mergeSort fun x y=>decide (x<=y))++Cd (ss.length - (Lib.compact (ss.mergeSort fun x y=>decide (x<=y))).length) []) hs aB aA;rw [List.take_left] at hc;exact ⟨g,cap,rfl,hc,Lib.below_putRow (hbel.grown (grownBy_sorted _) hbel.size (fun j hj=>by cases hj; exact hbase)) hbg⟩
theorem Ai3 {w:World} {b o len cap:Nat} {ss:List (List UInt8)} (hl:ss.length=len) (hc:∀ j u,(ss.map encStr)[j]?=some u->w.cell? ⟨b,o+j,none⟩=some u) (hbig:len<=1000000) {ops:Array Oper} {rest:List Oper} {op:Oper} {a:Act} {Q:Exit->Act->World->Prop}
  (hgd:op.guard=none) (ho:op.op=.call { callee:=.builtin .append,args:=#[.tmp 6,.tmp 7],argTypes:=#[37,37] }) (h6:a.eval (.tmp 6)=.slice (some ⟨w.heap.size,0,none⟩) 0 0) (h7:a.eval (.tmp 7)=.slice (some ⟨b,o,none⟩) len cap)
  (h:∀ v' w',w'.ownsRow w.heap.size 9 1 v' len (ss.map encStr)->Below w.heap.size w w'->v'≠.slice none 0 0->wpList prog ops Q rest (a.put op.dst v') w'):wpList prog ops Q (op :: rest) a (w.alloc (.cells #[] 9)):=by
 obtain ⟨i0,hi,hz0,hz1,hz2⟩:=info_parts Apz;have hbel0:Below w.heap.size w (w.alloc (.cells #[] 9)):=(Fb _ _).alloc (Cb _) _;refine wpList_append_own _ hgd _ _ 37 ho w.heap.size 9 i0 (.string ⟨#[]⟩) 1 16 underlying37 hi hz0 hz1 hz2 rfl aL (.slice (some ⟨w.heap.size,0,none⟩) 0 0) 0 [] h6 (World.ownsRow_made w #[] 0 (Cb _) aL rfl) ⟨b,o,none⟩ len cap (ss.map encStr) h7 (by rw [Ib,hl,Ia]) (fun j u hj=>?_) (fun u hu=>?_) eD aA hbel0.size (fun v' w' hown hg hn=>?_)
 ·have:=hc j u hj;rw [Dl,hbel0.cell (E2 this)]; exact this
 ·obtain ⟨x,-,rfl⟩:=Fy.1 hu;rfl
 ·rw [Fo,Ct] at hown;refine h v' w' hown (hbel0.grown hg hbel0.size fun j hj=>?_) fun e=>?_
  ·simp only [Value.ownBlock,A0] at hj; omega
  ·have:=(hn.1 e).1;simp at this
theorem Aej (w:World) (b o len cap:Nat) (ss:List (List UInt8)) (hl:ss.length=len) (hpos:0<len) (hc:∀ j u,(ss.map encStr)[j]?=some u->w.cell? ⟨b,o+j,none⟩=some u) (hbig:len<=1000000):Calls prog 78 #[.slice (some ⟨b,o,none⟩) len cap,.slice none 0 0] w fun e w' =>
  ∃ g cap,e=.returned (.slice (some ⟨g,0,none⟩) (Lib.compact (ss.mergeSort fun x y=>decide (x<=y))).length cap) /\
  w'.ownsRow w.heap.size 9 1 (.slice (some ⟨g,0,none⟩) (Lib.compact (ss.mergeSort fun x y=>decide (x<=y))).length cap) (Lib.compact (ss.mergeSort fun x y=>decide (x<=y))).length ((Lib.compact (ss.mergeSort fun x y=>decide (x<=y))).map encStr)/\Below w.heap.size w w':=by
 have HC:=Cl hc;have HL:=Cl hl;clear hc hl;go_enter func78,ntmps78;go_wp2_with (at_builtin; refine Ai3 HL.out HC.out hbig rfl rfl rfl rfl ?_; intro v1 w1 hown hbel hnn; obtain ⟨g,cap1,rfl,hbg,hgl,hncap,hcm,-,hH⟩:=Lib.holds_of_ownsRow hown hnn; have HO:=Cl hown; have HB:=Cl hbel; have HG:=Cl hbg; have HS:=Cl (show Calls prog 110 #[.slice (some ⟨g,0,none⟩) len cap1] w1 fun e w'=>e=.returned (.tuple #[])/\∃ n os,w'=grow (putRow encStr (Sort.ahead w1 n) g 0 (ss.mergeSort fun x y=>decide (x<=y)).toArray) os from by have:=Tryz.slices_Sort_string g 0 cap1 ss w1 hH hgl (by rw [HL.out]; omega); rw [HL.out] at this; exact this); have HH:=Cl hH; have HGL:=Cl hgl; clear hown hbel hnn hbg hgl hH);have HC2:=Cl (show ∀ nn os,Calls prog 111 #[.slice (some ⟨g,0,none⟩) len cap1] (grow (putRow encStr (Sort.ahead w1 nn) g 0 (ss.mergeSort fun x y=>decide (x<=y)).toArray) os) fun e w'=>e=.returned (.slice (some ⟨g,0,none⟩) (Lib.compact (ss.mergeSort fun x y=>decide (x<=y))).length cap1)/\∃ q,w'=putRow encStr (Sort.ahead (grow (putRow encStr (Sort.ahead w1 nn) g 0 (ss.mergeSort fun x y=>decide (x<=y)).toArray) os) q) g 0 (Lib.compact (ss.mergeSort fun x y=>decide (x<=y))++Cd (len - (Lib.compact (ss.mergeSort fun x y=>decide (x<=y))).length) []).toArray from by
  intro nn os;have hl2:(ss.mergeSort fun x y=>decide (x<=y)).length=len:=by rw [List.length_mergeSort]; exact HL.out
  have hH2:Holds encStr (grow (putRow encStr (Sort.ahead w1 nn) g 0 (ss.mergeSort fun x y=>decide (x<=y)).toArray) os) g 0 (ss.mergeSort fun x y=>decide (x<=y)).toArray :=
   holds_grow encStr _ os g 0 _ (by simpa [putRow,mapBlock,Sort.ahead] using HGL.out) (holds_putRow encStr _ g 0 _ _ (holds_ahead encStr w1 nn g 0 _ HH.out) (by simp))
  have:=Tryz.slices_Compact_string g 0 cap1 (ss.mergeSort fun x y=>decide (x<=y)) _ hH2 aA aA;rw [hl2] at this;exact this)
 go_wp2_with (go_at_call 110; refine HS.out.mono ?_; rintro e w2 ⟨rfl,nn,os,rfl⟩);go_wp2_with (go_at_call 111; refine (HC2.out nn os).mono ?_; rintro e w3 ⟨rfl,q,rfl⟩);go_ret;exact Ai4 HO.out HB.out HG.out HL.out
theorem U0 {z:List (List UInt8)} (hz:z.Pairwise (·<=·)):(Lib.compact z).Pairwise (· < ·)/\∀ x,x ∈ Lib.compact z↔x ∈ z:=by
 have mono:∀ i j,i<=j->j<z.length->z.toArray[i]!<=z.toArray[j]!:=by
  intro i j hij hj;rw [getElem!_pos z.toArray i aB,getElem!_pos z.toArray j bI];rcases Ic i j with h|h
  ·exact List.pairwise_iff_getElem.1 hz i j aA hj h
  ·have:i=j:=aA
   subst this;exact List.le_refl _
 have key:∀ m,m<=z.length->(Lib.compactUpTo z.toArray m).Pairwise (· < ·)/\∀ x,x ∈ Lib.compactUpTo z.toArray m↔∃ j,j<m/\z.toArray[j]! = x:=by
  intro m;induction m with
  | zero=>intro _; exact ⟨by simp [Lib.compactUpTo],fun x=>by simp [Lib.compactUpTo]⟩
  | succ m ih =>
   intro hm;obtain ⟨h1,h2⟩:=ih aA;rw [Lib.compactUpTo_succ];cases hk:Lib.keeps z.toArray m with
   | true =>
    rw [if_pos rfl];refine ⟨List.pairwise_append.2 ⟨h1,by simp,fun x hx y hy=>?_⟩,fun x=>?_⟩
    ·obtain ⟨j,hj,rfl⟩:=(h2 x).1 hx;have hy:y=z.toArray[m]!:=by simpa using hy
     subst hy;simp only [Lib.keeps,decide_eq_true_eq] at hk;have hne:=hk.resolve_left aA;refine List.not_le.1 fun hle=>hne ?_;exact List.le_antisymm (List.le_trans hle (mono j (m - 1) aA aA)) (mono (m - 1) m aA aA)
    ·rw [Cr,h2];constructor
     ·rintro (⟨j,hj,e⟩|h)
      ·exact ⟨j,aA,e⟩
      ·exact ⟨m,aA,(by simpa using h:x=_).symm⟩
     ·rintro ⟨j,hj,e⟩;by_cases hjm:j=m
      ·subst hjm; exact .inr (by simp [e])
      ·exact .inl ⟨j,aA,e⟩
   | false =>
    rw [if_neg (by simp),Fu];refine ⟨h1,fun x=>?_⟩;rw [h2];simp only [Lib.keeps,decide_eq_false_iff_not,not_or,Decidable.not_not] at hk;constructor
    ·rintro ⟨j,hj,e⟩; exact ⟨j,aA,e⟩
    ·rintro ⟨j,hj,e⟩;by_cases hjm:j=m
     ·subst hjm; exact ⟨j - 1,aA,by rw [<- hk.2]; exact e⟩
     ·exact ⟨j,aA,e⟩
 obtain ⟨h1,h2⟩:=key z.length (Cb _);refine ⟨h1,fun x=>(h2 x).trans ?_⟩;constructor
 ·rintro ⟨j,hj,rfl⟩;rw [getElem!_pos z.toArray j bI];simp
 ·intro hx;obtain ⟨j,hj,rfl⟩:=List.getElem_of_mem hx;exact ⟨j,hj,by rw [getElem!_pos z.toArray j bI]; simp⟩
theorem Zh (l:List ByteArray):Lib.compact ((l.map nm).mergeSort fun x y=>decide (x<=y))=(uniS l).map nm:=by
 have hz:((l.map nm).mergeSort fun x y=>decide (x<=y)).Pairwise (·<=·):=by
  have:=List.pairwise_mergeSort (le:=fun x y:List UInt8=>decide (x<=y)) (fun a b c h1 h2=>by simp only [decide_eq_true_eq] at *; exact List.le_trans h1 h2) (fun a b=>by simp only [Fz,decide_eq_true_eq]; exact List.le_total a b) (l.map nm);exact this.imp fun h=>aI
 obtain ⟨h1,h2⟩:=U0 hz;obtain ⟨u1,u2,-⟩:=Nk l;generalize Lib.compact ((l.map nm).mergeSort fun x y=>decide (x<=y))=T at h1 h2;have e:T=(T.map fun x=>(⟨x.toArray⟩:ByteArray)).map nm:=by
  rw [iH];conv=>lhs; rw [<- List.map_id T]
  exact O3 fun x _=>by simp [nm]
 rw [e];congr 1;refine Ag1 ?_ u1 fun x=>?_
 ·unfold Inc;rw [List.pairwise_map];exact h1.imp fun h=>by simpa [nm] using h
 ·rw [u2];have:x ∈ (T.map fun x=>(⟨x.toArray⟩:ByteArray))↔nm x ∈ T:=by
   rw [Fy];constructor
   ·rintro ⟨y,hy,rfl⟩; simpa [nm] using hy
   ·intro h; exact ⟨nm x,h,by simp [nm]⟩
  rw [this,h2,List.mem_mergeSort,Fy];constructor
  ·rintro ⟨y,hy,h⟩; rw [Ahq h] at hy; exact hy
  ·intro h; exact ⟨x,h,rfl⟩
theorem Ais {w:World} {A:Nat->Nat->Prop} {b sz:Nat} : ∀ {l:List ByteArray} {o j:Nat} {x:ByteArray},Bt w A b sz o (l.map strC)->nth l j=some x->sz=1/\w.cell? ⟨b,o+j,none⟩=some (.string x)
 | y :: l,o,0,x,h,hx=>by
  simp only [nth,A0] at hx;subst hx;simp only [Cm,Bt,strC] at h;obtain ⟨h0,⟨vs,h1,h2⟩,-⟩:=h;match vs,h2 with
  | [v],h2 =>
  simp only [PRs,PR,and_true] at h2;simp only [Lie] at h1;have h0:sz=1:=by simpa using h0.symm
  exact ⟨h0,by rw [I1,h1.1,h2.1]⟩
 | y :: l,o,j+1,x,h,hx=>by
  simp only [nth] at hx;simp only [Cm,Bt] at h;obtain ⟨h0,-,h3⟩:=h;have h0:sz=1:=by simpa [strC] using h0.symm
  subst h0;obtain ⟨-,h4⟩:=Ais h3 hx;exact ⟨rfl,by rw [<- h4]; congr 2; omega⟩
theorem Tp {w:World} {A:Nat->Nat->Prop} {b:Nat} (hA:∀ o,¬ A b o):∀ (l:List ByteArray) (o:Nat),(∀ i x,nth l i=some x->w.cell? ⟨b,o+i,none⟩=some (.string x))->Bt w A b 1 o (l.map strC)
 | [],_,_=>by simp only [Cw,Bt]
 | x :: l,o,h=>by
  simp only [Cm,Bt];have h1:=h 0 x rfl;refine ⟨rfl,⟨[.string x],⟨h1,hA _,trivial⟩,?_⟩,Tp hA l (o+1) fun i d hd=>?_⟩
  ·simp [PRs,PR,strC,fU]
  ·have:=h (i+1) d hd;rwa [show o+(i+1)=o+1+i from by omega] at this
theorem Ae3 {C:Cx} {vs:Array Value} (hs:SR C) (l:List ByteArray) (c:Cap) (hlen:l.length<=1000000) (hc:l=[]->c=.nilc) (hv:VRs C [.frz (l.map strC) c,.frz [] .nilc] vs.toList) :
  Calls prog 78 vs C.w fun e w'=>∃ v C',e=.returned v/\C'.w=w'/\Le C C'/\SR C'/\C'.S=C.S/\C'.tk=C.tk/\C'.n=C.n/\VR C' (B2 (uniS l)) v:=by
 obtain ⟨vl⟩:=vs;match vl,hv with
 | [x,y],hv =>
 simp only [VRs,VR,and_true] at hv;obtain ⟨⟨a,len,cap,rfl,h1,h2,h3,h4⟩,⟨a2,len2,cap2,rfl,g1,g2,g3,-⟩⟩:=hv;have g1:len2=0:=by simpa using g1.symm
 subst g1;obtain ⟨rfl,g3⟩:=(g3:a2=none/\cap2=0);subst g3;by_cases hl:l=[]
 ·subst hl;obtain rfl:=hc rfl;have h1:len=0:=by simpa using h1.symm
  subst h1;obtain ⟨rfl,h3⟩:=(h3:a=none/\cap=0);subst h3;refine (Aei C.w).mono ?_;rintro e w' ⟨a,rfl,hb⟩;refine ⟨_,C.at w',rfl,rfl,Le.of_below hb,SR.of_below hs hb,rfl,rfl,rfl,?_⟩;simp only [B2,uniS,List.foldl_nil,Cw,VR];exact ⟨a,0,0,rfl,rfl,Cb _,trivial,.inl trivial⟩
 ·have hpos:0<l.length:=I5.2 hl;obtain ⟨b,o,sz,rfl,hr⟩:=h4.resolve_left bS;have h1:l.length=len:=aU
  subst h1;have hcell:∀ j u,((l.map nm).map encStr)[j]?=some u->C.w.cell? ⟨b,o+j,none⟩=some u:=by
   intro j u hj;rw [iH,Fw,B6] at hj;obtain ⟨x,hx,rfl⟩:=hj;rw [(Ais hr (by rw [Ae]; exact hx)).2];simp [nm]
  refine (Aej C.w b o l.length cap (l.map nm) (by simp) hpos hcell hlen).mono ?_;rintro e w' ⟨g,cap',rfl,hown,hb⟩;rw [Zh] at hown ⊢;rcases hown.2 with ⟨h0,-⟩|⟨g',cap2,cur,hv,hbase,hg,k1,k2,k3,k4⟩
  ·cases h0
  cases hv;refine ⟨_,C.at w',rfl,rfl,Le.of_below hb,SR.of_below hs hb,rfl,rfl,rfl,?_⟩;simp only [B2,VR];refine ⟨_,_,_,rfl,by simp,by simpa using k1,trivial,.inr ⟨g,0,1,rfl,Tp (fun o ha=>?_) _ _ fun i x hx=>?_⟩⟩
  ·rcases ha with ha|ha
   ·have:=hs.avlt g o ha; omega
   ·have:=Ahm hs (show C.Mut g o from ha); omega
  ·have hx':=hx;rw [Ae] at hx';have hi:i<(uniS l).length:=Bb hx;show w'.cell? _=_;have hq:cur.toList[i]?=some (.string x):=by
    have:(cur.toList.take (((uniS l).map nm).length*1))[i]?=some (.string x):=by
     rw [k4,iH,Fw,hx'];simp [nm]
    rw [Iw] at this;split at this
    ·exact this
    ·simp at this
   simp only [It,hg,Fo];simpa using hq
end Go.Proofs.YthelkgdmgihhiaaGreat
namespace Go.Proofs.YthelkgdmgihhiaaGreat.Simp
def sum:Nat->(Nat->Rat)->Rat
 | 0,_=>0
 | n+1,f=>sum n f+f n
theorem sum_congr {f g:Nat->Rat} : ∀ {n:Nat},(∀ j,j<n->f j=g j)->sum n f=sum n g
 | 0,_=>rfl
 | n+1,h=>by rw [sum,sum,sum_congr fun j hj=>h j aA,h n aA]
theorem sum_zero {f:Nat->Rat} {n:Nat} (h:∀ j,j<n->f j=0):sum n f=0:=by
 induction n with
 | zero=>rfl
 | succ n ih=>rw [sum,ih fun j hj=>h j aA,h n aA]; grind
theorem sum_add (f g:Nat->Rat):∀ n,sum n (fun j=>f j+g j)=sum n f+sum n g
 | 0=>dF
 | n+1=>by simp only [sum,sum_add f g n]; grind
theorem Gu (a:Rat) (f:Nat->Rat):∀ n,sum n (fun j=>a*f j)=a*sum n f
 | 0=>dF
 | n+1=>by simp only [sum,Gu a f n]; grind
theorem Aan (f g:Nat->Rat):∀ n,sum n (fun j=>f j - g j)=sum n f - sum n g
 | 0=>dF
 | n+1=>by simp only [sum,Aan f g n]; grind
theorem Ni (f:Nat->Nat->Rat) (m:Nat):∀ n,sum n (fun j=>sum m fun k=>f j k)=sum m fun k=>sum n fun j=>f j k
 | 0=>by simp only [sum]; exact (sum_zero fun _ _=>rfl).symm
 | n+1=>by simp only [sum,Ni f m n,sum_add]
theorem sum_one {f:Nat->Rat} {s:Nat} : ∀ {n:Nat},s<n->sum n (fun j=>if j=s then f j else 0)=f s
 | 0,h=>aA
 | n+1,h=>by
  rw [sum];by_cases e:n=s
  ·subst e;rw [if_pos rfl,sum_zero fun j hj=>if_neg aA]; grind
  ·rw [if_neg e,sum_one aA]; grind
theorem sum_nonneg {f:Nat->Rat} : ∀ {n:Nat},(∀ j,j<n->0<=f j)->0<=sum n f
 | 0,_=>dF
 | n+1,h=>by
  have h1:=sum_nonneg (f:=f) (n:=n) fun j hj=>h j aA;have h2:=h n aA;rw [sum]; grind
theorem Pj {f:Nat->Rat} : ∀ {n:Nat},0<sum n f->∃ j,j<n/\0<f j
 | 0,h=>by simp only [sum] at h; grind
 | n+1,h=>by
  rw [sum] at h;by_cases h1:0<f n
  ·exact ⟨n,aA,h1⟩
  ·have h2:0<sum n f:=aJ
   obtain ⟨j,hj,h3⟩:=Pj h2;exact ⟨j,aA,h3⟩
structure Tab where
 T:Nat->Nat->Rat
 c:Nat->Rat
 B:Nat->Nat
def dot (N:Nat) (a x:Nat->Rat):Rat:=sum (N+1) fun j=>a j*x j
def Ker (m N:Nat) (t:Tab) (x:Nat->Rat):Prop:=∀ i,i<m->dot N (t.T i) x=0
def pivT (t:Tab) (r s:Nat) (i j:Nat):Rat:=if i=r then t.T r j / t.T r s else t.T i j - t.T i s*(t.T r j / t.T r s)
def piv (t:Tab) (r s:Nat):Tab:=⟨pivT t r s,fun j=>t.c j - t.c s*(t.T r j / t.T r s),fun i=>if i=r then s else t.B i⟩
theorem Abi (N:Nat) (a:Rat) (f x:Nat->Rat):dot N (fun j=>a*f j) x=a*dot N f x:=by
 unfold dot;rw [<- Gu];exact Ya32
theorem Anh (N:Nat) (f g x:Nat->Rat):dot N (fun j=>f j - g j) x=dot N f x - dot N g x:=by
 unfold dot;rw [<- Aan];exact Ya32
theorem Agb (N:Nat) (a:Rat) (f x:Nat->Rat):dot N (fun j=>f j / a) x=dot N f x / a:=by
 have h:=Abi N a⁻¹ f x;have e1:(fun j=>a⁻¹*f j)=fun j=>f j / a:=by funext j; grind
 rw [e1] at h;rw [h]; grind
theorem Abh (N:Nat) (a:Rat) (p:Rat) (f g x:Nat->Rat):dot N (fun j=>f j - a*(g j / p)) x=dot N f x - a*(dot N g x / p):=by
 rw [Anh,Abi N a (fun j=>g j / p) x,Agb]
theorem Aaa (t:Tab) (r s:Nat) (N:Nat) (x:Nat->Rat) (i:Nat):dot N ((piv t r s).T i) x=if i=r then dot N (t.T r) x / t.T r s else dot N (t.T i) x - t.T i s*(dot N (t.T r) x / t.T r s):=by
 by_cases h:i=r
 ·subst h;rw [if_pos rfl];have e:(piv t i s).T i=fun j=>t.T i j / t.T i s:=by funext j; simp [piv,pivT]
  rw [e,Agb]
 ·rw [if_neg h];have e:(piv t r s).T i=fun j=>t.T i j - t.T i s*(t.T r j / t.T r s):=by funext j; simp [piv,pivT,h]
  rw [e,Abh]
theorem piv_ker {m N:Nat} {t:Tab} {r s:Nat} (hr:r<m) (hp:t.T r s≠0) (x:Nat->Rat):Ker m N (piv t r s) x↔Ker m N t x:=by
 constructor
 ·intro h;have h0:=h r hr;rw [Aaa,if_pos rfl] at h0;have b9:dot N (t.T r) x=0:=by
   have:dot N (t.T r) x=dot N (t.T r) x / t.T r s*t.T r s:=aJ
   rw [this,h0]; grind
  intro i hi;have h1:=h i hi;rw [Aaa] at h1;by_cases e:i=r
  ·subst e; exact b9
  ·rw [if_neg e,b9] at h1; grind
 ·intro h i hi;rw [Aaa,h r hr,h i hi];split <;> grind
theorem piv_cost {m N:Nat} {t:Tab} {r s:Nat} (hr:r<m) {x:Nat->Rat} (hx:Ker m N t x):dot N (piv t r s).c x=dot N t.c x:=by
 show dot N (fun j=>t.c j - t.c s*(t.T r j / t.T r s)) x=_;rw [Abh,hx r hr]; grind
structure Fit (m N:Nat) (t:Tab):Prop where
 lt:∀ i,i<m->t.B i<N
 unit:∀ i k,i<m->k<m->t.T i (t.B k)=if i=k then 1 else 0
 free:∀ k,k<m->t.c (t.B k)=0
theorem Fit.inj {m N:Nat} {t:Tab} (h:Fit m N t) {i k:Nat} (hi:i<m) (hk:k<m) (e:t.B i=t.B k):i=k:=by
 have h1:=h.unit i i hi hi;have h2:=h.unit i k hi hk;rw [e,h2] at h1;by_cases yc:i=k
 ·exact yc
 ·rw [if_neg yc,if_pos rfl] at h1; grind
theorem piv_fit {m N:Nat} {t:Tab} {r s:Nat} (h:Fit m N t) (hr:r<m) (hs:s<N) (hp:t.T r s≠0):Fit m N (piv t r s):=by
 refine ⟨fun i hi=>?_,fun i k hi hk=>?_,fun k hk=>?_⟩
 ·show (if i=r then s else t.B i)<N;split
  ·exact hs
  ·exact h.lt i hi
 ·show pivT t r s i (if k=r then s else t.B k)=_;unfold pivT;by_cases za:k=r
  ·subst za;simp only [if_pos];by_cases yc:i=k
   ·subst yc;exact Ya11
   ·rw [if_neg yc,if_neg yc]; grind
  ·rw [if_neg za];have h1:=h.unit r k hr hk;rw [if_neg (Od za)] at h1;have h2:=h.unit i k hi hk;by_cases xm:i=r
   ·subst xm; rw [if_pos rfl,h1,if_neg (Od za)]; grind
   ·rw [if_neg xm,h1,h2]; grind
 ·show t.c (if k=r then s else t.B k) - t.c s*(t.T r (if k=r then s else t.B k) / t.T r s)=0;by_cases za:k=r
  ·subst za; simp only [if_pos]; grind
  ·rw [if_neg za,h.free k hk];have h1:=h.unit r k hr hk;rw [if_neg (Od za)] at h1;rw [h1]; grind
def dir (m:Nat) (t:Tab) (s:Nat) (j:Nat):Rat:=(if j=s then 1 else 0) - sum m fun k=>if j=t.B k then t.T k s else 0
theorem U9 {m N:Nat} {t:Tab} (h:Fit m N t) {s:Nat} (hs:s<N+1) (a:Nat->Rat):dot N a (dir m t s)=a s - sum m fun k=>t.T k s*a (t.B k):=by
 unfold dot dir;have e1:∀ j,a j*((if j=s then 1 else 0) - sum m fun k=>if j=t.B k then t.T k s else 0)=(if j=s then a j else 0) - sum m fun k=>if j=t.B k then t.T k s*a j else 0:=by
  intro j;have e2:(sum m fun k=>if j=t.B k then t.T k s*a j else 0)=a j*sum m fun k=>if j=t.B k then t.T k s else 0:=by
   rw [<- Gu];exact sum_congr fun k _=>eX
  rw [e2];split <;> grind
 rw [sum_congr fun j _=>e1 j,Aan,sum_one hs,Ni];congr 1;exact sum_congr fun k hk=>by
  have hb:t.B k<N+1:=by have:=h.lt k hk; omega
  rw [sum_one (f:=fun j=>t.T k s*a j) hb]
theorem Qr {m N:Nat} {t:Tab} (h:Fit m N t) {s:Nat} (hs:s<N+1):Ker m N t (dir m t s):=by
 intro i hi;rw [U9 h hs];have:(sum m fun k=>t.T k s*t.T i (t.B k))=t.T i s:=by
  rw [sum_congr (g:=fun k=>if k=i then t.T k s else 0) fun k hk=>?_,sum_one (f:=fun k=>t.T k s) hi];rw [h.unit i k hi hk];exact Ya36
 rw [this]; grind
theorem Px {m N:Nat} {t:Tab} (h:Fit m N t) {s:Nat} (hs:s<N+1):dot N t.c (dir m t s)=t.c s:=by
 rw [U9 h hs,sum_zero fun k hk=>by rw [h.free k hk]; grind]; grind
theorem Aq0 {m N:Nat} {t u:Tab} (ht:Fit m N t) (hu:Fit m N u) (hB:∀ i,i<m->t.B i=u.B i) (hk:∀ x,Ker m N t x->Ker m N u x) (hc:∀ x,Ker m N t x->dot N u.c x=dot N t.c x) :
  (∀ i j,i<m->j<N+1->t.T i j=u.T i j)/\∀ j,j<N+1->t.c j=u.c j:=by
 have key:∀ a j,j<N+1->dot N a (dir m t j)=a j - sum m fun k=>t.T k j*a (u.B k):=fun a j hj=>by
  rw [U9 ht hj];congr 1;exact sum_congr fun k hk=>by rw [hB k hk]
 constructor
 ·intro i j hi hj;have h1:=hk _ (Qr ht hj) i hi;rw [key _ j hj] at h1;have:(sum m fun k=>t.T k j*u.T i (u.B k))=t.T i j:=by
   rw [sum_congr (g:=fun k=>if k=i then t.T k j else 0) fun k hk=>?_,sum_one (f:=fun k=>t.T k j) hi];rw [hu.unit i k hi hk];exact Ya36
  rw [this] at h1;grind
 ·intro j hj;have h1:=hc _ (Qr ht hj);rw [key _ j hj,Px ht hj,sum_zero fun k hk=>by rw [hu.free k hk]; grind] at h1;grind
end Go.Proofs.YthelkgdmgihhiaaGreat.Simp
namespace Go.Proofs.YthelkgdmgihhiaaGreat.Simp
structure Step (m N L:Nat) (t:Tab) (r s:Nat):Prop where
 r_lt:r<m
 s_lt:s<L
 neg:t.c s<0
 first:∀ j,j<s->0<=t.c j
 pos:0<t.T r s
 least:∀ i,i<m->0<t.T i s->t.T r N / t.T r s<=t.T i N / t.T i s
 tie:∀ i,i<m->0<t.T i s->t.T r N / t.T r s=t.T i N / t.T i s->t.B r<=t.B i
structure Run (m N L K:Nat) where
 t:Nat->Tab
 r:Nat->Nat
 s:Nat->Nat
 step:∀ k,k<K->Step m N L (t k) (r k) (s k)
 next:∀ k,k<K->t (k+1)=piv (t k) (r k) (s k)
 fit:Fit m N (t 0)
 LN:L<=N
 right:∀ i,i<m->0<=(t 0).T i N
section
variable {m N L K:Nat} (R:Run m N L K)
theorem Run.fits (k:Nat) (h:k<=K):Fit m N (R.t k):=by
 induction k with
 | zero=>exact R.fit
 | succ k ih =>
  have hs:=R.step k aA;rw [R.next k aA];exact piv_fit (ih aA) hs.r_lt (by have:=hs.s_lt; have:=R.LN; omega) (by have:=hs.pos; grind)
theorem Lz {a b:Rat} (ha:0<=a) (hb:0<b):0<=a / b:=by
 rw [Rat.div_def];exact Sq ha (Rat.le_of_lt (Rat.inv_pos.mpr hb))
theorem Run.rights (k:Nat) (h:k<=K):∀ i,i<m->0<=(R.t k).T i N:=by
 induction k with
 | zero=>exact R.right
 | succ k ih0 =>
  intro i hi;have hs:=R.step k aA;have ih:=ih0 aA;have hr:=ih (R.r k) hs.r_lt;have hq:=Lz hr hs.pos;rw [R.next k aA];show 0<=pivT _ _ _ _ _;unfold pivT;split
  ·exact hq
  ·have ar:=ih i hi;by_cases hp:0<(R.t k).T i (R.s k)
   ·have hl:=hs.least i hi hp;have h1:(R.t k).T i (R.s k)*((R.t k).T (R.r k) N / (R.t k).T (R.r k) (R.s k))<=(R.t k).T i (R.s k)*((R.t k).T i N / (R.t k).T i (R.s k)):=Rat.mul_le_mul_of_nonneg_left hl (Rat.le_of_lt hp);have h2:(R.t k).T i (R.s k)*((R.t k).T i N / (R.t k).T i (R.s k))=(R.t k).T i N:=aJ
    grind
   ·have h1:0<=(-(R.t k).T i (R.s k))*((R.t k).T (R.r k) N / (R.t k).T (R.r k) (R.s k)):=Sq aJ hq;grind
theorem Run.ker {k l:Nat} (hkl:k<=l) (hl:l<=K) (x:Nat->Rat):Ker m N (R.t l) x↔Ker m N (R.t k) x:=by
 induction l with
 | zero =>
  have:k=0:=aA
  subst this; exact Iff.rfl
 | succ l ih =>
  by_cases e:k=l+1
  ·subst e; exact Iff.rfl
  ·have hs:=R.step l aA;rw [R.next l aA,piv_ker hs.r_lt (by have:=hs.pos; grind)];exact ih aA aA
theorem Run.cost {k l:Nat} (hkl:k<=l) (hl:l<=K) {x:Nat->Rat} (hx:Ker m N (R.t k) x):dot N (R.t l).c x=dot N (R.t k).c x:=by
 induction l with
 | zero =>
  have:k=0:=aA
  subst this; rfl
 | succ l ih =>
  by_cases e:k=l+1
  ·subst e; rfl
  ·have hs:=R.step l aA;rw [R.next l aA,piv_cost hs.r_lt ((R.ker (k:=k) aA aA x).2 hx)];exact ih aA aA
theorem Run.gain {k:Nat} (h:k<K):(R.t (k+1)).c N=(R.t k).c N+(-(R.t k).c (R.s k))*((R.t k).T (R.r k) N / (R.t k).T (R.r k) (R.s k)):=by
 rw [R.next k h];show (R.t k).c N - _=_;grind
theorem Run.grow {k:Nat} (h:k<K):(R.t k).c N<=(R.t (k+1)).c N:=by
 have hs:=R.step k h;have h1:0<=(-(R.t k).c (R.s k))*((R.t k).T (R.r k) N / (R.t k).T (R.r k) (R.s k)):=Sq (by have:=hs.neg; grind) (Lz (R.rights k aA _ hs.r_lt) hs.pos);rw [R.gain h]; grind
theorem Run.mono {k l:Nat} (hkl:k<=l) (hl:l<=K):(R.t k).c N<=(R.t l).c N:=by
 induction l with
 | zero =>
  have:k=0:=aA
  subst this; exact Sr
 | succ l ih =>
  by_cases e:k=l+1
  ·subst e; exact Sr
  ·exact Rat.le_trans (ih aA aA) (R.grow aA)
theorem Run.basis {k:Nat} (h:k<K) (i:Nat):(R.t (k+1)).B i=if i=R.r k then R.s k else (R.t k).B i:=by rw [R.next k h]; rfl
theorem Run.out {k l i y:Nat} (hkl:k<=l) (hl:l<=K) (h1:(R.t k).B i=y) (h2:(R.t l).B i≠y):∃ j,k<=j/\j<l/\R.r j=i/\(R.t j).B i=y:=by
 induction l with
 | zero =>
  have:k=0:=aA
  subst this; exact absurd h1 h2
 | succ l ih =>
  by_cases e:k=l+1
  ·subst e; exact absurd h1 h2
  ·by_cases h3:(R.t l).B i=y
   ·refine ⟨l,aA,aA,?_,h3⟩;rw [R.basis aA] at h2;by_cases e2:i=R.r l
    ·exact e2.symm
    ·rw [if_neg e2] at h2; exact absurd h3 h2
   ·obtain ⟨j,a,b,c⟩:=ih aA aA h3;exact ⟨j,a,aA,c⟩
theorem Run.into {k l i y:Nat} (hkl:k<=l) (hl:l<=K) (h1:(R.t k).B i≠y) (h2:(R.t l).B i=y):∃ j,k<=j/\j<l/\R.r j=i/\R.s j=y:=by
 induction l with
 | zero =>
  have:k=0:=aA
  subst this; exact absurd h2 h1
 | succ l ih =>
  by_cases e:k=l+1
  ·subst e; exact absurd h2 h1
  ·by_cases h3:(R.t l).B i=y
   ·obtain ⟨j,a,b,c⟩:=ih aA aA h3;exact ⟨j,a,aA,c⟩
   ·rw [R.basis aA] at h2;by_cases e2:i=R.r l
    ·rw [if_pos e2] at h2; exact ⟨l,aA,aA,e2.symm,h2⟩
    ·rw [if_neg e2] at h2; exact absurd h2 h3
theorem Anw {f:Nat->Nat} {p q:Nat} (h:p<q):∃ k,p<=k/\k<q/\∀ j,p<=j->j<q->f j<=f k:=by
 obtain ⟨d,rfl⟩:∃ d,q=p+d+1:=⟨q - p - 1,aA⟩;clear h;induction d with
 | zero=>exact ⟨p,aA,aA,fun j h1 h2=>by
   have:j=p:=aA
   subst this; exact Cb _⟩
 | succ d ih =>
  obtain ⟨k,h1,h2,h3⟩:=ih;by_cases h4:f k<=f (p+d+1)
  ·refine ⟨p+d+1,aA,aA,fun j h5 h6=>?_⟩;by_cases e:j=p+d+1
   ·subst e;exact Ya2c
   ·exact Fv (h3 j h5 aA) h4
  ·refine ⟨k,h1,aA,fun j h5 h6=>?_⟩;by_cases e:j=p+d+1
   ·subst e; omega
   ·exact h3 j h5 aA
theorem Run.bland {p q:Nat} (hpq:p<q) (hq:q<=K) (hB:∀ i,i<m->(R.t p).B i=(R.t q).B i):False:=by
 have hfp:=R.fits p aA;have hfq:=R.fits q hq;obtain ⟨-,hc⟩:=Aq0 hfp hfq hB (fun x hx=>(R.ker aA hq x).2 hx) (fun x hx=>R.cost aA hq hx);have hz:∀ k,p<=k->k<q->(R.t k).T (R.r k) N=0:=fun k h1 h2=>by
  have hs:=R.step k aA;have g0:=R.mono h1 (show k<=K by omega);have g1:=R.mono (show k+1<=q by omega) hq;have g2:=R.grow (k:=k) aA;have g3:=hc N aA;have g4:=R.gain (k:=k) aA;have g5:(-(R.t k).c (R.s k))*((R.t k).T (R.r k) N / (R.t k).T (R.r k) (R.s k))=0:=aJ
  have hn:=hs.neg;have hp:=hs.pos;grind
 have hb:∀ k,p<=k->k<=q->∀ i,i<m->(R.t k).T i N=(R.t p).T i N:=by
  intro k h1 h2;induction k with
  | zero =>
   have:p=0:=aA
   subst this; exact fun _ _=>rfl
  | succ k ih =>
   by_cases e:p=k+1
   ·subst e; exact fun _ _=>rfl
   ·intro i hi;have h0:=hz k aA aA;rw [<- ih aA aA i hi,R.next k aA];show pivT _ _ _ _ _=_;unfold pivT;by_cases e2:i=R.r k
    ·subst e2; rw [if_pos rfl,h0]; grind
    ·rw [if_neg e2,h0]; grind
 have bz:∀ k j,p<=k->k<q->p<=j->j<=q->(R.t j).T (R.r k) N=0:=fun k j h1 h2 h3 h4=>by
  have hs:=R.step k aA;rw [hb j h3 h4 _ hs.r_lt,<- hb k h1 aA _ hs.r_lt];exact hz k h1 h2
 have f9:∀ {i y k l:Nat},i<m->p<=k->k<=q->p<=l->l<=q->(R.t k).B i=y->(R.t l).B i≠y->∃ j,p<=j/\j<q/\R.r j=i/\R.s j=y:=by
  intro i y k l hi h1 h2 h3 h4 h5 h6;by_cases e:(R.t p).B i=y
  ·obtain ⟨j,a,b,c⟩:=R.into h4 hq h6 ((hB i hi).symm.trans e);exact ⟨j,aA,b,c⟩
  ·obtain ⟨j,a,b,c⟩:=R.into h1 aA e h5;exact ⟨j,a,aA,c⟩
 obtain ⟨k1,a1,a2,a3⟩:=Anw (f:=R.s) hpq;have j1:=R.step k1 aA;have lx:=R.fits k1 aA;obtain ⟨y,hy⟩:∃ y,y=R.s k1:=⟨_,rfl⟩;have a0a:∃ k2,p<=k2/\k2<q/\(R.t k2).B (R.r k2)=y:=by
  have a14:(R.t k1).B (R.r k1)≠y:=fun e=>by
   have:=lx.free _ j1.r_lt;rw [e,hy] at this;have:=j1.neg;grind
  have iv:(R.t (k1+1)).B (R.r k1)=y:=by rw [R.basis aA,if_pos rfl,hy]
  by_cases e:(R.t q).B (R.r k1)=y
  ·obtain ⟨j,b1,b2,b3,b4⟩:=R.out a1 aA ((hB _ j1.r_lt).trans e) a14;exact ⟨j,b1,aA,by rw [b3]; exact b4⟩
  ·obtain ⟨j,b1,b2,b3,b4⟩:=R.out (show k1+1<=q by omega) hq iv e;exact ⟨j,aA,b2,by rw [b3]; exact b4⟩
 obtain ⟨k2,c1,c2,c3⟩:=a0a;have fh:=R.step k2 aA;have bv:=R.fits k2 aA;have hsN:R.s k2<N+1:=by have:=fh.s_lt; have:=R.LN; omega
 have hd:=Qr bv hsN;have e1:=Px bv hsN;have e2:dot N (R.t k1).c (dir m (R.t k2) (R.s k2))=dot N (R.t k2).c (dir m (R.t k2) (R.s k2)):=by
  rcases Nat.le_total k1 k2 with h|h
  ·exact (R.cost h aA ((R.ker h aA _).1 hd)).symm
  ·exact R.cost h aA hd
 rw [e1,U9 bv hsN] at e2;have hsy:R.s k2<y:=by
  have h1:=a3 k2 c1 c2;rw [<- hy] at h1;have h2:R.s k2≠y:=fun e=>by
   have h3:=bv.free _ fh.r_lt;rw [c3,<- e] at h3;have:=fh.neg;grind
  omega
 have h0:=j1.first (R.s k2) (by rw [<- hy]; exact hsy)
 have a2o:=fh.neg;obtain ⟨i,hi,hip⟩:=Pj (n:=m) (f:=fun k=>(R.t k2).T k (R.s k2)*(R.t k1).c ((R.t k2).B k)) aJ;have hx:∀ i',i'<m->(R.t k1).B i'≠(R.t k2).B i:=fun i' ar e=>by
  have:=lx.free i' ar;rw [e] at this;rw [this] at hip;grind
 obtain ⟨j,d1,d2,d3,d4⟩:=f9 hi c1 aA a1 aA rfl (hx i hi);have hle:(R.t k2).B i<=y:=by rw [<- d4,hy]; exact a3 j d1 d2
 have hbi:(R.t k2).T i N=0:=by rw [<- d3]; exact bz j k2 d1 d2 c1 aA
 have hne:(R.t k2).B i≠y:=fun e=>by
  have xm:i=R.r k2:=bv.inj hi fh.r_lt (e.trans c3.symm);subst xm;rw [c3,hy] at hip;have h1:=j1.neg;have h2:=fh.pos;have h3:0<(R.t k2).T (R.r k2) (R.s k2)*(-(R.t k1).c (R.s k1)):=Rat.mul_pos h2 aJ;grind
 have h5:=j1.first ((R.t k2).B i) (by rw [<- hy]; omega)
 have h6:0<(R.t k2).T i (R.s k2):=by
  refine Sz fun h=>?_;have h7:0<=(-(R.t k2).T i (R.s k2))*(R.t k1).c ((R.t k2).B i):=Sq aJ h5;grind
 have h8:=fh.tie i hi h6 (by rw [hbi,hz k2 c1 c2]; grind);rw [c3] at h8;omega
end
end Go.Proofs.YthelkgdmgihhiaaGreat.Simp
namespace Go.Proofs.YthelkgdmgihhiaaGreat.Simp
theorem Ahz:∀ (M:Nat) (f:Nat->Nat),(∀ k,k<=M->f k<M)->∃ p q,p<q/\q<=M/\f p=f q
 | 0,f,h=>absurd (h 0 (Cb _)) aA
 | M+1,f,h=>by
  by_cases hx:∃ k,k<=M/\f k=f (M+1)
  ·obtain ⟨k,h1,h2⟩:=hx;exact ⟨k,M+1,aA,Cb _,h2⟩
  ·have hne:∀ k,k<=M->f k≠f (M+1):=fun k hk e=>hx ⟨k,hk,e⟩;obtain ⟨p,q,h1,h2,h3⟩:=Ahz M (fun k=>if f k > f (M+1) then f k - 1 else f k) fun k hk=>by
    have a:=h k aA;have b:=h (M+1) (Cb _);have c:=hne k hk;split <;> omega
   have a:=hne p aA;have b:=hne q h2;refine ⟨p,q,h1,aA,?_⟩;split at h3 <;> split at h3 <;> omega
def code (N:Nat) (B:Nat->Nat):Nat->Nat
 | 0=>0
 | m+1=>code N B m*N+B m
theorem Zg {N:Nat} {B:Nat->Nat} : ∀ {m:Nat},(∀ i,i<m->B i<N)->code N B m<N ^ m
 | 0,_=>by simp [code]
 | m+1,h=>by
  have h1:=Zg (m:=m) fun i hi=>h i aA;have h2:=h m aA;rw [code,Oj];have h3:(code N B m+1)*N<=N ^ m*N:=F0 _ h1;rw [O8] at h3;omega
theorem Uz {N:Nat} {B C:Nat->Nat} : ∀ {m:Nat},(∀ i,i<m->B i<N)->(∀ i,i<m->C i<N)->code N B m=code N C m->∀ i,i<m->B i=C i
 | 0,_,_,_,i,hi=>aA
 | m+1,hb,hc,h,i,hi=>by
  have h1:=hb m aA;have h2:=hc m aA;rw [code,code] at h;have e1:B m=C m:=by
   have a:(code N B m*N+B m) % N=B m:=by rw [I2,Nat.mul_add_mod]; exact O6 h1
   have b:(code N C m*N+C m) % N=C m:=by rw [I2,Nat.mul_add_mod]; exact O6 h2
   rw [h] at a;exact a.symm.trans b
  have e2:code N B m=code N C m:=by
   rw [e1] at h;have h3:code N B m*N=code N C m*N:=aA
   exact Nat.eq_of_mul_eq_mul_right aA h3
  by_cases e:i=m
  ·subst e; exact e1
  ·exact Uz (fun i hi=>hb i aA) (fun i hi=>hc i aA) e2 i aA
theorem Run.short {m N L K:Nat} (R:Run m N L K):K<N ^ m:=by
 refine Sz fun hk=>?_;have hk:N ^ m<=K:=aA
 obtain ⟨p,q,h1,h2,h3⟩:=Ahz (N ^ m) (fun k=>code N (R.t k).B m) fun k hk'=>Zg (R.fits k aA).lt;exact R.bland h1 aA (Uz (R.fits p aA).lt (R.fits q aA).lt h3)
def Run.none {m N L:Nat} {t:Tab} (h:Fit m N t) (hL:L<=N) (hr:∀ i,i<m->0<=t.T i N):Run m N L 0:=⟨fun _=>t,fun _=>0,fun _=>0,fun k hk=>aA,fun k hk=>aA,h,hL,hr⟩
def Run.more {m N L K:Nat} (R:Run m N L K) {r s:Nat} (h:Step m N L (R.t K) r s):Run m N L (K+1) where
 t:=fun k=>if k=K+1 then piv (R.t K) r s else R.t k
 r:=fun k=>if k=K then r else R.r k
 s:=fun k=>if k=K then s else R.s k
 step:=fun k hk=>by
  rw [if_neg (show ¬ k=K+1 by omega)];by_cases e:k=K
  ·subst e; rw [if_pos rfl,if_pos rfl]; exact h
  ·rw [if_neg e,if_neg e]; exact R.step k aA
 next:=fun k hk=>by
  rw [if_neg (show ¬ k=K+1 by omega)];by_cases e:k=K
  ·subst e; rw [if_pos rfl,if_pos rfl,if_pos rfl]
  ·rw [if_neg e,if_neg e,if_neg aA]; exact R.next k aA
 fit:=by rw [if_neg aA]; exact R.fit
 LN:=R.LN
 right:=by rw [if_neg aA]; exact R.right
theorem Run.more_last {m N L K:Nat} (R:Run m N L K) {r s:Nat} (h:Step m N L (R.t K) r s):(R.more h).t (K+1)=piv (R.t K) r s:=if_pos rfl
theorem Run.more_old {m N L K:Nat} (R:Run m N L K) {r s:Nat} (h:Step m N L (R.t K) r s) {k:Nat} (hk:k<=K):(R.more h).t k=R.t k:=if_neg aA
structure Sol (m N:Nat) (t:Tab) (x:Nat->Rat):Prop where
 ker:Ker m N t x
 pos:∀ j,j<N->0<=x j
 one:x N=-1
def base (m N:Nat) (t:Tab) (j:Nat):Rat:=- dir m t N j
theorem Agc (N:Nat) (a x:Nat->Rat):dot N a (fun j=>- x j)=- dot N a x:=by
 unfold dot;have h:=Gu (-1) (fun j=>a j*x j) (N+1);rw [sum_congr (g:=fun j=>-1*(a j*x j)) fun j _=>aJ,h]; grind
theorem Aa7 {m N:Nat} {t:Tab} (h:Fit m N t) (hr:∀ i,i<m->0<=t.T i N):Sol m N t (base m N t):=by
 refine ⟨fun i hi=>?_,fun j hj=>?_,?_⟩
 ·have:=Qr h (s:=N) aA i hi;show dot N (t.T i) (fun j=>- dir m t N j)=0;rw [Agc,this]; grind
 ·show 0<=- dir m t N j;unfold dir;rw [if_neg aA];have:0<=sum m fun k=>if j=t.B k then t.T k N else 0:=sum_nonneg fun k hk=>by
   split
   ·exact hr k hk
   ·exact Sr
  grind
 ·show - dir m t N N=-1;unfold dir;rw [if_pos rfl,sum_zero fun k hk=>if_neg (by have:=h.lt k hk; omega)]; grind
theorem W0 {m N:Nat} {t:Tab} (h:Fit m N t):dot N t.c (base m N t)=- t.c N:=by
 show dot N t.c (fun j=>- dir m t N j)=_;rw [Agc,Px h aA]
theorem Yw {f:Nat->Rat} {L:Nat} : ∀ {N:Nat},L<=N->(∀ j,L<=j->j<N->f j=0)->sum N f=sum L f
 | 0,h,_=>by
  have:L=0:=aA
  subst this; rfl
 | N+1,h,hz=>by
  by_cases e:L=N+1
  ·subst e; rfl
  ·rw [sum,hz N aA aA,Yw aA fun j h1 h2=>hz j h1 aA]; grind
theorem Aka {m N L:Nat} {t:Tab} (hL:L<=N) (hc:∀ j,j<L->0<=t.c j) {x:Nat->Rat} (hx:Sol m N t x) (h0:∀ j,L<=j->j<N->x j=0) : - t.c N<=dot N t.c x:=by
 have h1:0<=sum N fun j=>t.c j*x j:=by
  rw [Yw hL fun j h1 h2=>by rw [h0 j h1 h2]; grind];exact sum_nonneg fun j hj=>Sq (hc j hj) (hx.pos j aA)
 unfold dot;rw [sum,hx.one]; grind
end Go.Proofs.YthelkgdmgihhiaaGreat.Simp
namespace Go.Proofs.YthelkgdmgihhiaaGreat.Simp
def isum:Nat->(Nat->Int)->Int
 | 0,_=>0
 | n+1,f=>isum n f+f n
theorem Abz (f g:Nat->Int):∀ n,isum n (fun j=>f j - g j)=isum n f - isum n g
 | 0=>rfl
 | n+1=>by simp only [isum,Abz f g n]; omega
theorem Nt {f:Nat->Int} {b:Nat} : ∀ {n:Nat},(∀ j,j<n->(f j).natAbs<=b)->(isum n f).natAbs<=n*b
 | 0,_=>by simp [isum]
 | n+1,h=>by
  have h1:=Nt (f:=f) (b:=b) (n:=n) fun j hj=>h j aA;have h2:=h n aA;rw [isum,O8]; omega
theorem Q8 (f:Nat->Int):∀ n,((isum n f:Int):Rat)=sum n fun j=>((f j:Int):Rat)
 | 0=>by simp [isum,sum]
 | n+1=>by rw [isum,sum,Xb,Q8 f n]
def dg (b n k:Nat):Nat:=k / b ^ n % b
theorem Apt {b:Nat} (hb:0<b):∀ {d p q:Nat},p<b ^ d->q<b ^ d->(∀ n,n<d->dg b n p=dg b n q)->p=q
 | 0,p,q,hp,hq,_=>by simp at hp hq; omega
 | d+1,p,q,hp,hq,h=>by
  have h0:=h 0 aA;simp only [dg,Nat.pow_zero,Nat.div_one] at h0;have h1:p / b=q / b:=by
   refine Apt hb (d:=d) ?_ ?_ fun n hn=>?_
   ·rw [I8 hb,<- Oj]; exact hp
   ·rw [I8 hb,<- Oj]; exact hq
   ·have:=h (n+1) aA;simpa only [dg,Oj,I2,Nat.div_div_eq_div_mul] using this
  have e1:=Oy p b;have e2:=Oy q b;rw [h1,h0] at e1;omega
theorem Aqy (m M:Nat) (hM:1<=M) (a:Nat->Nat->Int) (ha:∀ i k,i<m->k<m+1->(a i k).natAbs<=M) :
  ∃ u:Nat->Int,(∃ k,k<m+1/\u k≠0)/\(∀ k,(u k).natAbs<=(2*((m+1)*M)) ^ m)/\∀ i,i<m->isum (m+1) (fun k=>a i k*u k)=0:=by
 obtain ⟨S,hS⟩:∃ S,S=(m+1)*M:=⟨_,rfl⟩;obtain ⟨H,hH⟩:∃ H,H=(2*S) ^ m:=⟨_,rfl⟩;have de:1<=S:=by rw [hS]; exact Fv hM (Nat.le_mul_of_pos_left M aA)
 obtain ⟨W,hW⟩:∃ W,W=2*(H*S)+1:=⟨_,rfl⟩;have a15:W ^ m<(H+1) ^ (m+1):=by
  have h1:W<=(H+1)*(2*S):=by
   have:(H+1)*(2*S)=2*(H*S)+2*S:=by rw [O8,Nat.mul_left_comm]; omega
   omega
  have h2:W ^ m<=((H+1)*(2*S)) ^ m:=Nat.pow_le_pow_left h1 m;rw [Nat.mul_pow,<- hH] at h2;have h3:(H+1) ^ (m+1)=(H+1) ^ m*(H+1):=Oj _ _;have h4:0<(H+1) ^ m:=gY aA;rw [h3,Nat.mul_add,Ia];omega
 obtain ⟨im,him⟩:∃ im:Nat->Nat->Int,im=fun p i=>isum (m+1) fun k=>a i k*(dg (H+1) k p:Int):=⟨_,rfl⟩;have hdg:∀ k p,dg (H+1) k p<=H:=fun k p=>by
  have:=Sc (p / (H+1) ^ k) (show 0<H+1 by omega);unfold dg; omega
 have hb:∀ p i,i<m->(im p i).natAbs<=H*S:=fun p i hi=>by
  have h1:=Nt (f:=fun k=>a i k*(dg (H+1) k p:Int)) (b:=M*H) (n:=m+1) fun k hk=>by
   rw [Ik];exact Ot (ha i k hi hk) (by have:=hdg k p; omega)
  rw [him,hS];refine Fv h1 (Nat.le_of_eq ?_);rw [<- Nat.mul_assoc,I2]
 obtain ⟨p,q,h1,h2,h3⟩:=Ahz (W ^ m) (fun p=>code W (fun i=>(im p i+(H*S:Nat)).toNat) m) fun p _=>Zg fun i hi=>by
  have:=hb p i hi;omega
 have heq:=Uz (N:=W) (m:=m) (fun i hi=>by have:=hb p i hi; omega) (fun i hi=>by have:=hb q i hi; omega) h3;refine ⟨fun k=>(dg (H+1) k q:Int) - (dg (H+1) k p:Int),?_,fun k=>?_,fun i hi=>?_⟩
 ·refine Sz fun hx=>?_;have:p=q:=Apt (b:=H+1) (d:=m+1) aA aA aA fun n hn=>by
   have j0:¬ ((dg (H+1) n q:Int) - (dg (H+1) n p:Int)≠0):=fun h=>hx ⟨n,hn,h⟩;omega
  omega
 ·rw [<- hS,<- hH];have:=hdg k p;have:=hdg k q;dsimp only;omega
 ·have e:isum (m+1) (fun k=>a i k*((dg (H+1) k q:Int) - (dg (H+1) k p:Int)))=im q i - im p i:=by
   rw [him];show _=isum (m+1) _ - isum (m+1) _;rw [<- Abz];congr 1;funext k;rw [fT]
  rw [e];have h4:=heq i hi;have h5:=hb p i hi;have h6:=hb q i hi;omega
end Go.Proofs.YthelkgdmgihhiaaGreat.Simp
namespace Go.Proofs.YthelkgdmgihhiaaGreat.Simp
theorem Wa (f:Nat->Rat):∀ n,sum (n+1) f=f 0+sum n fun k=>f (k+1)
 | 0=>dF
 | n+1=>by
  rw [sum,Wa f n,sum]; grind
def Aio (d:Nat) (col:Nat->Nat) (u:Nat->Int) (c:Nat):Rat:=sum d fun k=>if c=col k then ((u k:Int):Rat) else 0
theorem Lb {N d:Nat} {col:Nat->Nat} {u:Nat->Int} (hc:∀ k,k<d->col k<N+1) (a:Nat->Rat):dot N a (Aio d col u)=sum d fun k=>a (col k)*((u k:Int):Rat):=by
 unfold dot Aio;have e1:∀ j,a j*(sum d fun k=>if j=col k then ((u k:Int):Rat) else 0)=sum d fun k=>if j=col k then a j*((u k:Int):Rat) else 0:=by
  intro j;rw [<- Gu];exact sum_congr fun k _=>eX
 rw [sum_congr fun j _=>e1 j,Ni];exact sum_congr fun k hk=>by
  have h:=sum_one (f:=fun j=>a j*((u k:Int):Rat)) (s:=col k) (hc k hk);exact h
theorem small {m N M Mc:Nat} (hM:1<=M) {t0 t:Tab} {a:Nat->Nat->Int} {a0:Nat->Int} (ha:∀ i j,i<m->j<N+1->t0.T i j=((a i j:Int):Rat)/\(a i j).natAbs<=M) (se:∀ j,j<N+1->t0.c j=((a0 j:Int):Rat)/\(a0 j).natAbs<=Mc)
  (ht:Fit m N t) (hk:∀ x,Ker m N t0 x->Ker m N t x) (hc:∀ x,Ker m N t0 x->dot N t.c x=dot N t0.c x) {j:Nat} (hj:j<N+1) :
  ∃ y0:Int,y0≠0/\y0.natAbs<=(2*((m+1)*M)) ^ m/\(∀ i,i<m->∃ y:Int,t.T i j=((y:Int):Rat) / ((y0:Int):Rat)/\y.natAbs<=(2*((m+1)*M)) ^ m)/\∃ w:Int,t.c j=((w:Int):Rat) / ((y0:Int):Rat)/\w.natAbs<=(m+1)*(Mc*(2*((m+1)*M)) ^ m):=by
 obtain ⟨col,ed⟩:∃ col:Nat->Nat,col=fun k=>if k=0 then j else t.B (k - 1):=⟨_,rfl⟩
 have hlt:∀ k,k<m+1->col k<N+1:=fun k hk=>by
  rw [ed]; dsimp only;split
  ·exact hj
  ·have:=ht.lt (k - 1) aA; omega
 have ip:∀ k,col (k+1)=t.B k:=fun k=>by rw [ed]; simp
 have hc0:col 0=j:=by rw [ed]; simp
 obtain ⟨u,⟨k0,hk0,xn⟩,hub,hu⟩:=Aqy m M hM (fun i k=>a i (col k)) fun i k hi hk=>(ha i (col k) hi (hlt k hk)).2;have hx:Ker m N t0 (Aio (m+1) col u):=by
  intro i hi;rw [Lb hlt];have h1:=congrArg (fun z:Int=>(z:Rat)) (hu i hi);rw [Q8] at h1;rw [sum_congr (g:=fun k=>((a i (col k)*u k:Int):Rat)) fun k hk=>by rw [(ha i (col k) hi (hlt k hk)).1,C6]];rw [h1]; rfl
 have bz:∀ i,i<m->t.T i j*((u 0:Int):Rat)+((u (i+1):Int):Rat)=0:=fun i hi=>by
  have h1:=hk _ hx i hi;rw [Lb hlt,Wa,hc0] at h1;rw [sum_congr (g:=fun k=>if k=i then ((u (k+1):Int):Rat) else 0) fun k hk=>by
   rw [ip,ht.unit i k hi hk];by_cases e:i=k
   ·subst e;exact Ya11
   ·rw [if_neg e,if_neg (Od e)]; grind] at h1
  rw [sum_one (f:=fun k=>((u (k+1):Int):Rat)) hi] at h1;exact h1
 have hy:u 0≠0:=fun h0=>by
  rw [h0] at bz;cases k0 with
  | zero=>exact xn h0
  | succ i =>
   have h1:=bz i aA;have h2:((u (i+1):Int):Rat)=((0:Int):Rat):=by
    have:((0:Int):Rat)=0:=rfl;rw [this] at h1 ⊢;grind
   exact xn (iB.mp h2)
 have hyr:((u 0:Int):Rat)≠0:=fun h=>hy (iB.mp (h.trans rfl));refine ⟨u 0,hy,hub 0,fun i hi=>⟨-(u (i+1)),?_,by have:=hub (i+1); omega⟩,?_⟩
 ·have h1:=bz i hi;rw [Oh];grind
 ·have h1:=hc _ hx;rw [Lb hlt,Lb hlt,Wa,hc0,sum_zero fun k hk=>by rw [ip,ht.free k hk]; grind] at h1;refine ⟨isum (m+1) fun k=>a0 (col k)*u k,?_,?_⟩
  ·rw [Q8];rw [sum_congr (g:=fun k=>((a0 (col k)*u k:Int):Rat)) fun k hk=>by rw [(se (col k) (hlt k hk)).1,C6]] at h1;rw [<- h1]; grind
  ·exact Nt fun k hk=>by
    rw [Ik];exact Ot (se (col k) (hlt k hk)).2 (hub k)
end Go.Proofs.YthelkgdmgihhiaaGreat.Simp
namespace Go.Proofs.YthelkgdmgihhiaaGreat.Simp
theorem V9 (f:Nat->Rat) (L:Nat):∀ m,sum (L+m) f=sum L f+sum m fun k=>f (L+k)
 | 0=>by simp only [sum,I1]; grind
 | m+1=>by
  rw [<- Si,sum,V9 f L m,sum]; grind
theorem Acl {f:Nat->Rat} : ∀ {n:Nat},(∀ j,j<n->0<=f j)->sum n f=0->∀ j,j<n->f j=0
 | 0,_,_,j,hj=>aA
 | n+1,h,h0,j,hj=>by
  rw [sum] at h0;have h1:=sum_nonneg (f:=f) (n:=n) fun j hj=>h j aA;have h2:=h n aA;by_cases e:j=n
  ·subst e; grind
  ·exact Acl (n:=n) (fun j hj=>h j aA) (show sum n f=0 by grind) j aA
theorem N7 (f:Nat->Rat) (n:Nat):sum n (fun j=>- f j)=- sum n f:=by
 have h:=Gu (-1) f n;rw [sum_congr (g:=fun j=>-1*f j) fun j _=>aJ,h]; grind
def first (m L:Nat) (R:Nat->Nat->Rat) (b:Nat->Rat):Tab where
 T:=fun i j=>if j<L then R i j else if j<L+m then (if j=L+i then 1 else 0) else b i
 c:=fun j=>if j<L then - sum m (fun i=>R i j) else if j<L+m then 0 else - sum m b
 B:=fun i=>L+i
theorem first_fit (m L:Nat) (R:Nat->Nat->Rat) (b:Nat->Rat):Fit m (L+m) (first m L R b):=by
 refine ⟨fun i hi=>by show L+i<L+m; omega,fun i k hi hk=>?_,fun k hk=>?_⟩
 ·show (if L+k<L then R i (L+k) else if L+k<L+m then (if L+k=L+i then 1 else 0) else b i)=_;rw [if_neg aA,if_pos aA];by_cases e:i=k
  ·subst e; rw [if_pos rfl,if_pos rfl]
  ·rw [if_neg aA,if_neg e]
 ·show (if L+k<L then - sum m (fun i=>R i (L+k)) else if L+k<L+m then 0 else - sum m b)=0;rw [if_neg aA,if_pos aA]
theorem Q0 {m L:Nat} {R:Nat->Nat->Rat} {b:Nat->Rat} {i:Nat} (hi:i<m) (x:Nat->Rat):dot (L+m) ((first m L R b).T i) x=sum L (fun j=>R i j*x j)+x (L+i)+b i*x (L+m):=by
 unfold dot;rw [sum,V9];have e1:sum L (fun j=>(first m L R b).T i j*x j)=sum L fun j=>R i j*x j:=sum_congr fun j hj=>by simp only [first]; rw [if_pos hj]
 have e2:(sum m fun k=>(first m L R b).T i (L+k)*x (L+k))=x (L+i):=by
  rw [sum_congr (g:=fun k=>if k=i then x (L+k) else 0) fun k hk=>?_,sum_one (f:=fun k=>x (L+k)) hi];simp only [first];rw [if_neg aA,if_pos aA];by_cases e:k=i
  ·subst e;exact Ya11
  ·rw [if_neg aA,if_neg e]; grind
 have e3:(first m L R b).T i (L+m)=b i:=Za54
 rw [e1,e2,e3]
theorem first_cost {m L:Nat} {R:Nat->Nat->Rat} {b:Nat->Rat} {x:Nat->Rat} (h:Ker m (L+m) (first m L R b) x):dot (L+m) (first m L R b).c x=sum m fun i=>x (L+i):=by
 have h1:∀ i,i<m->x (L+i)=- (sum L (fun j=>R i j*x j)+b i*x (L+m)):=fun i hi=>by
  have:=h i hi;rw [Q0 hi] at this;grind
 rw [sum_congr h1];unfold dot;rw [sum,V9];have e1:sum L (fun j=>(first m L R b).c j*x j)=- sum m (fun i=>sum L fun j=>R i j*x j):=by
  rw [<- Ni,<- N7];refine sum_congr fun j hj=>?_;have e0:(first m L R b).c j=- sum m (fun i=>R i j):=by simp only [first]; rw [if_pos hj]
  rw [e0];have e2:=Gu (x j) (fun i=>R i j) m;rw [sum_congr (g:=fun i=>R i j*x j) fun i _=>aJ] at e2;rw [e2]; grind
 have e2:(sum m fun k=>(first m L R b).c (L+k)*x (L+k))=0:=sum_zero fun k hk=>by
  simp only [first];rw [if_neg aA,if_pos aA]; grind
 have e3:(first m L R b).c (L+m)=- sum m b:=Za54
 rw [e1,e2,e3];have e4:=Gu (x (L+m)) b m;rw [sum_congr (g:=fun i=>b i*x (L+m)) fun i _=>aJ] at e4;rw [N7,sum_add,e4];grind
theorem phase {m L:Nat} {R:Nat->Nat->Rat} {b:Nat->Rat} {t:Tab} (ht:Fit m (L+m) t) (hr:∀ i,i<m->0<=t.T i (L+m)) (hk:∀ x,Ker m (L+m) t x↔Ker m (L+m) (first m L R b) x)
  (hc:∀ x,Ker m (L+m) (first m L R b) x->dot (L+m) t.c x=dot (L+m) (first m L R b).c x) (a16:∀ j,j<L->0<=t.c j) :
  t.c (L+m)=0↔∃ x:Nat->Rat,(∀ j,j<L->0<=x j)/\∀ i,i<m->sum L (fun j=>R i j*x j)=b i:=by
 have hs:=Aa7 ht hr;have hk0:=(hk _).1 hs.ker;have e1:=hc _ hk0;rw [W0 ht,first_cost hk0] at e1;have hn:∀ i,i<m->0<=base m (L+m) t (L+i):=fun i hi=>hs.pos _ aA;constructor
 ·intro h0;rw [h0] at e1;have hz:=Acl hn aJ;refine ⟨base m (L+m) t,fun j hj=>hs.pos j aA,fun i hi=>?_⟩;have h1:=hk0 i hi;rw [Q0 hi,hz i hi,hs.one] at h1;grind
 ·rintro ⟨x,hx,hb⟩;obtain ⟨x',hx'⟩:∃ x':Nat->Rat,x'=fun j=>if j<L then x j else if j<L+m then 0 else -1:=⟨_,rfl⟩
  have p1:∀ j,j<L->x' j=x j:=fun j hj=>by rw [hx']; exact if_pos hj
  have p2:∀ j,L<=j->j<L+m->x' j=0:=fun j h1 h2=>by
   rw [hx']; dsimp only; rw [if_neg aA,if_pos h2]
  have p3:x' (L+m)=-1:=by rw [hx']; dsimp only; rw [if_neg aA,if_neg aA]
  have a0b:Ker m (L+m) (first m L R b) x':=fun i hi=>by
   rw [Q0 hi,p2 _ aA aA,p3,sum_congr (g:=fun j=>R i j*x j) fun j hj=>by rw [p1 j hj],hb i hi];grind
  have a17:Sol m (L+m) t x':=⟨(hk _).2 a0b,fun j hj=>by
   by_cases h:j<L
   ·rw [p1 j h]; exact hx j h
   ·rw [p2 j aA hj]; exact Sr,p3⟩
  have h2:=Aka aA a16 a17 p2;rw [hc _ a0b,first_cost a0b,sum_zero fun k hk=>p2 _ aA aA] at h2;have h3:=sum_nonneg hn;grind
end Go.Proofs.YthelkgdmgihhiaaGreat.Simp
namespace Go.Proofs.YthelkgdmgihhiaaGreat.Simp
theorem Aga (N:Nat) (a x y:Nat->Rat):dot N a (fun j=>x j+y j)=dot N a x+dot N a y:=by
 unfold dot;rw [<- sum_add];exact Ya32
theorem Xg (N:Nat) (k:Rat) (a x:Nat->Rat):dot N a (fun j=>k*x j)=k*dot N a x:=by
 unfold dot;rw [<- Gu];exact Ya32
structure Real (m N L:Nat) (t:Tab) (x:Nat->Rat):Prop where
 sol:Sol m N t x
 zero:∀ j,L<=j->j<N->x j=0
theorem Afh {m N L:Nat} {t:Tab} (h:Fit m N t) (hr:∀ i,i<m->0<=t.T i N) (ha:∀ i,i<m->L<=t.B i->t.T i N=0):Real m N L t (base m N t):=by
 refine ⟨Aa7 h hr,fun j h1 h2=>?_⟩;show - dir m t N j=0;unfold dir;rw [if_neg aA,sum_zero fun k hk=>?_]
 ·grind
 ·split
  ·rename_i e;exact ha k hk aA
  ·rfl
theorem least_none {m N L s:Nat} {t:Tab} {f:Nat->Rat} (h:Fit m N t) (hL:L<=N) (hr:∀ i,i<m->0<=t.T i N) (ha:∀ i,i<m->L<=t.B i->t.T i N=0) (hs:s<L) (hn:t.c s<0) (hp:∀ i,i<m->t.T i s<=0) (has:∀ i,i<m->L<=t.B i->t.T i s=0)
  (hf:∀ x,Ker m N t x->dot N t.c x=dot N f x) (V:Rat):∃ x,Real m N L t x/\dot N f x<V:=by
 have hb:=Afh h hr ha;obtain ⟨d,hd⟩:∃ d,d=dir m t s:=⟨_,rfl⟩;have px:=Qr h (s:=s) aA;have oc:=Px h (s:=s) aA;rw [<- hd] at px oc;have cw:∀ j,0<=d j:=fun j=>by
  rw [hd];unfold dir;have h1:0<=sum m fun k=>if j=t.B k then - t.T k s else 0:=sum_nonneg fun k hk=>by
   split
   ·have:=hp k hk; grind
   ·exact Sr
  have h2:=N7 (fun k=>if j=t.B k then t.T k s else 0) m;rw [sum_congr (g:=fun k=>if j=t.B k then - t.T k s else 0) fun k _=>eX] at h2;rw [h2] at h1;split <;> grind
 have hdz:∀ j,L<=j->d j=0:=fun j hj=>by
  rw [hd];unfold dir;rw [if_neg aA,sum_zero fun k hk=>?_]
  ·grind
  ·split
   ·rename_i e;exact has k hk aA
   ·rfl
 obtain ⟨l,dz,hl⟩:∃ l:Rat,0<=l/\- t.c N+l*t.c s<V:=by
  by_cases hv : - t.c N<V
  ·exact ⟨0,Sr,aJ⟩
  ·refine ⟨(- t.c N - V+1) / (- t.c s),Lz aJ aJ,?_⟩;have:(- t.c N - V+1) / (- t.c s)*t.c s=- (- t.c N - V+1):=aJ
   rw [this]; grind
 refine ⟨fun j=>base m N t j+l*d j,⟨⟨fun i hi=>?_,fun j hj=>?_,?_⟩,fun j h1 h2=>?_⟩,?_⟩
 ·rw [Aga,Xg,hb.sol.ker i hi,px i hi]; grind
 ·have h1:=hb.sol.pos j hj;have h2:=Sq dz (cw j);grind
 ·rw [hb.sol.one,hdz N hL]; grind
 ·rw [hb.zero j h1 h2,hdz j h1]; grind
 ·rw [Aga,Xg,<- hf _ hb.sol.ker,W0 h,<- hf _ px,oc];exact hl
end Go.Proofs.YthelkgdmgihhiaaGreat.Simp
namespace Go.Proofs.YthelkgdmgihhiaaGreat.Simp
theorem Yv (f:Nat->Rat):∀ n,sum (2*n) f=sum n fun k=>f (2*k)+f (2*k+1)
 | 0=>rfl
 | n+1=>by
  rw [show 2*(n+1)=2*n+1+1 by omega,sum,sum,Yv f n,sum]; grind
structure Sys where
 m:Nat
 n:Nat
 A:Nat->Nat->Rat
 c:Nat->Rat
 eq:Nat->Bool
def Sys.val (y:Sys) (v:Nat->Rat) (i:Nat):Rat:=sum y.n (fun k=>y.A i k*v k)+y.c i
def Sys.holds (y:Sys) (v:Nat->Rat):Prop:=∀ i,i<y.m->y.val v i<=0/\(y.eq i=true->y.val v i=0)
structure Cols (y:Sys) (L:Nat) (sg:Nat->Rat) (sl:Nat->Nat) (R:Nat->Nat->Rat) (b:Nat->Rat):Prop where
 sq:∀ i,i<y.m->sg i*sg i=1
 lt:2*y.n<=L
 even:∀ i k,i<y.m->k<y.n->R i (2*k)=sg i*y.A i k
 odd:∀ i k,i<y.m->k<y.n->R i (2*k+1)=- (sg i*y.A i k)
 slack:∀ i j,i<y.m->2*y.n<=j->j<L->R i j=if y.eq i=false/\j=sl i then sg i else 0
 slot:∀ i,i<y.m->y.eq i=false->2*y.n<=sl i/\sl i<L
 apart:∀ i k,i<y.m->k<y.m->y.eq i=false->y.eq k=false->sl i=sl k->i=k
 right:∀ i,i<y.m->b i=- (sg i*y.c i)
theorem Cols.row {y:Sys} {L:Nat} {sg:Nat->Rat} {sl:Nat->Nat} {R:Nat->Nat->Rat} {b:Nat->Rat} (h:Cols y L sg sl R b) {i:Nat} (hi:i<y.m) (x:Nat->Rat) :
  sum L (fun j=>R i j*x j)=sg i*(sum y.n fun k=>y.A i k*(x (2*k) - x (2*k+1)))+if y.eq i=false then sg i*x (sl i) else 0:=by
 obtain ⟨d,hd⟩:∃ d,L=2*y.n+d:=⟨L - 2*y.n,by have:=h.lt; omega⟩;rw [hd,V9,Yv];have e1:(sum y.n fun k=>R i (2*k)*x (2*k)+R i (2*k+1)*x (2*k+1))=sg i*sum y.n fun k=>y.A i k*(x (2*k) - x (2*k+1)):=by
  rw [<- Gu];exact sum_congr fun k hk=>by rw [h.even i k hi hk,h.odd i k hi hk]; grind
 rw [e1];congr 1;cases he:y.eq i with
 | true =>
  rw [if_neg (by simp)];exact sum_zero fun k hk=>by
   rw [h.slack i _ hi aA aA,if_neg (by rw [he]; simp)]; grind
 | false =>
  rw [if_pos rfl];obtain ⟨h1,h2⟩:=h.slot i hi he;obtain ⟨q,hq⟩:∃ q,sl i=2*y.n+q:=⟨sl i - 2*y.n,aA⟩;rw [sum_congr (g:=fun k=>if k=q then sg i*x (2*y.n+k) else 0) fun k hk=>?_,sum_one (f:=fun k=>sg i*x (2*y.n+k)) aA,<- hq];rw [h.slack i _ hi aA aA];by_cases e:k=q
  ·subst e; rw [if_pos ⟨he,hq.symm⟩,if_pos rfl]
  ·rw [if_neg (fun h=>e aA),if_neg e]; grind
theorem Cols.to {y:Sys} {L:Nat} {sg:Nat->Rat} {sl:Nat->Nat} {R:Nat->Nat->Rat} {b:Nat->Rat} (h:Cols y L sg sl R b) {x:Nat->Rat} (hx:∀ j,j<L->0<=x j) (hr:∀ i,i<y.m->sum L (fun j=>R i j*x j)=b i):y.holds fun k=>x (2*k) - x (2*k+1):=by
 intro i hi;have h1:=hr i hi;have h2:=h.sq i hi;rw [h.row hi,h.right i hi] at h1;unfold Sys.val;generalize (sum y.n fun k=>y.A i k*(x (2*k) - x (2*k+1)))=z at *;cases he:y.eq i with
 | true =>
  rw [he,if_neg (by simp)] at h1;have h3:z+y.c i=0:=by
   have:sg i*(sg i*z+0)=sg i*(-(sg i*y.c i)):=by rw [h1]
   grind
  exact ⟨aJ,fun _=>h3⟩
 | false =>
  rw [he,if_pos rfl] at h1;have h4:=hx (sl i) (h.slot i hi he).2;have h3:z+y.c i=- x (sl i):=by
   have:sg i*(sg i*z+sg i*x (sl i))=sg i*(-(sg i*y.c i)):=by rw [h1]
   grind
  exact ⟨aJ,fun h=>aP⟩
theorem Cols.of {y:Sys} {L:Nat} {sg:Nat->Rat} {sl:Nat->Nat} {R:Nat->Nat->Rat} {b:Nat->Rat} (h:Cols y L sg sl R b) {v:Nat->Rat} (hv:y.holds v):∃ x:Nat->Rat,(∀ j,j<L->0<=x j)/\(∀ i,i<y.m->sum L (fun j=>R i j*x j)=b i)/\∀ k,k<y.n->x (2*k) - x (2*k+1)=v k:=by
 obtain ⟨x,hx⟩:∃ x:Nat->Rat,(∀ k,k<y.n->x (2*k)=if 0<=v k then v k else 0)/\(∀ k,k<y.n->x (2*k+1)=if 0<=v k then 0 else - v k)/\(∀ i,i<y.m->y.eq i=false->x (sl i)=- y.val v i)/\∀ j,j<L->0<=x j:=by
  classical
  refine ⟨fun j=>if j<2*y.n then (if j % 2=0 then (if 0<=v (j / 2) then v (j / 2) else 0) else (if 0<=v (j / 2) then 0 else - v (j / 2))) else if hq:∃ i,i<y.m/\y.eq i=false/\sl i=j then - y.val v hq.choose else 0,fun k hk=>?_,fun k hk=>?_,fun i hi he=>?_,fun j hj=>?_⟩
  ·simp only [];rw [if_pos aA,if_pos aA,show 2*k / 2=k by omega]
  ·simp only [];rw [if_pos aA,if_neg aA,show (2*k+1) / 2=k by omega]
  ·have hq:∃ i',i'<y.m/\y.eq i'=false/\sl i'=sl i:=⟨i,hi,he,rfl⟩;simp only [];rw [if_neg (by have:=(h.slot i hi he).1; omega),dif_pos hq];have:=h.apart _ _ hq.choose_spec.1 hi hq.choose_spec.2.1 he hq.choose_spec.2.2;rw [this]
  ·simp only [];split
   ·split <;> split <;> grind
   ·split
    ·rename_i hq;have:=(hv _ hq.choose_spec.1).1;grind
    ·exact Sr
 obtain ⟨x1,x2,x3,x4⟩:=hx;refine ⟨x,x4,fun i hi=>?_,fun k hk=>by rw [x1 k hk,x2 k hk]; split <;> grind⟩;rw [h.row hi,h.right i hi];have e1:(sum y.n fun k=>y.A i k*(x (2*k) - x (2*k+1)))=sum y.n fun k=>y.A i k*v k:=sum_congr fun k hk=>by
  rw [x1 k hk,x2 k hk];split <;> grind
 rw [e1];obtain ⟨g1,g2⟩:=hv i hi;cases he:y.eq i with
 | true =>
  rw [if_neg (by simp)];have:=g2 he;unfold Sys.val at this;grind
 | false =>
  rw [if_pos rfl,x3 i hi he];unfold Sys.val;grind
theorem Cols.solve {y:Sys} {L:Nat} {sg:Nat->Rat} {sl:Nat->Nat} {R:Nat->Nat->Rat} {b:Nat->Rat} (h:Cols y L sg sl R b) :
  (∃ x:Nat->Rat,(∀ j,j<L->0<=x j)/\∀ i,i<y.m->sum L (fun j=>R i j*x j)=b i)↔∃ v,y.holds v :=
 ⟨fun ⟨_,hx,hr⟩=>⟨_,h.to hx hr⟩,fun ⟨_,hv⟩=>have ⟨x,h1,h2,_⟩:=h.of hv; ⟨x,h1,h2⟩⟩
end Go.Proofs.YthelkgdmgihhiaaGreat.Simp
namespace Go.Proofs.YthelkgdmgihhiaaGreat.Simp
def red (t:Tab) (f:Nat->Rat):Nat->Nat->Rat
 | 0=>f
 | k+1=>fun j=>red t f k j - red t f k (t.B k)*t.T k j
def Ami (m:Nat) (t:Tab) (f:Nat->Rat):Tab:=⟨t.T,red t f m,t.B⟩
end Go.Proofs.YthelkgdmgihhiaaGreat.Simp
namespace Go.Proofs.YthelkgdmgihhiaaGreat.Simp
def Comb (m N:Nat) (t0 t:Tab):Prop:=∀ i,i<m->∃ w:Nat->Rat,∀ j,j<N+1->t.T i j=sum m fun k=>w k*t0.T k j
theorem Wb {m p q:Nat} (hp:p<m) (hq:q<m) (x y:Rat) (f:Nat->Rat):(sum m fun k=>((if k=p then x else 0)+(if k=q then y else 0))*f k)=x*f p+y*f q:=by
 have e:∀ k,((if k=p then x else 0)+(if k=q then y else 0))*f k=(if k=p then x*f k else 0)+(if k=q then y*f k else 0):=fun k=>by
  split <;> split <;> grind
 rw [sum_congr fun k _=>e k,sum_add,sum_one (f:=fun k=>x*f k) hp,sum_one (f:=fun k=>y*f k) hq]
theorem Comb.refl {m N:Nat} {t:Tab} : Comb m N t t:=fun i hi=>⟨fun k=>if k=i then 1 else 0,fun j _=>by
 rw [sum_congr (g:=fun k=>if k=i then t.T k j else 0) fun k _=>eX,sum_one (f:=fun k=>t.T k j) hi]⟩
theorem Af4 {m N:Nat} {a b:Tab} (h:Comb m N a b) (w:Nat->Rat):∃ u:Nat->Rat,∀ j,j<N+1->(sum m fun k=>w k*b.T k j)=sum m fun k=>u k*a.T k j:=by
 classical
 obtain ⟨v,hv⟩:∃ v:Nat->Nat->Rat,∀ k,k<m->∀ j,j<N+1->b.T k j=sum m fun l=>v k l*a.T l j :=
  ⟨fun k=>if hk:k<m then (h k hk).choose else fun _=>0,fun k hk j hj=>by
   simp only [dif_pos hk]; exact (h k hk).choose_spec j hj⟩
 refine ⟨fun l=>sum m fun k=>w k*v k l,fun j hj=>?_⟩;have e1:(sum m fun k=>w k*b.T k j)=sum m fun k=>sum m fun l=>w k*(v k l*a.T l j):=sum_congr fun k hk=>by
  rw [hv k hk j hj,Gu]
 rw [e1,Ni];refine sum_congr fun l _=>?_;have e2:=Gu (a.T l j) (fun k=>w k*v k l) m;rw [sum_congr (g:=fun k=>w k*(v k l*a.T l j)) fun k _=>aJ] at e2;rw [e2]; grind
theorem Comb.trans {m N:Nat} {a b c:Tab} (h1:Comb m N a b) (h2:Comb m N b c):Comb m N a c:=fun i hi=>by
 obtain ⟨w,hw⟩:=h2 i hi;obtain ⟨u,hu⟩:=Af4 h1 w;exact ⟨u,fun j hj=>by rw [hw j hj,hu j hj]⟩
theorem Aj4 {m N:Nat} {t:Tab} {r s:Nat} (hr:r<m):Comb m N t (piv t r s):=fun i hi=>by
 by_cases e:i=r
 ·subst e;refine ⟨fun k=>(if k=i then 1 / t.T i s else 0)+(if k=i then 0 else 0),fun j _=>?_⟩;rw [Wb hi hi];show pivT t i s i j=_;unfold pivT;rw [if_pos rfl]; grind
 ·refine ⟨fun k=>(if k=i then 1 else 0)+(if k=r then - t.T i s / t.T r s else 0),fun j _=>?_⟩;rw [Wb hi hr];show pivT t r s i j=_;unfold pivT;rw [if_neg e]; grind
theorem Ak3 {m N:Nat} {t:Tab} {r s:Nat} (hr:r<m) (hp:t.T r s≠0):Comb m N (piv t r s) t:=fun i hi=>by
 by_cases e:i=r
 ·subst e;refine ⟨fun k=>(if k=i then t.T i s else 0)+(if k=i then 0 else 0),fun j _=>?_⟩;rw [Wb hi hi];show _=_*pivT t i s i j+_*pivT t i s i j;unfold pivT;rw [if_pos rfl]; grind
 ·refine ⟨fun k=>(if k=i then 1 else 0)+(if k=r then t.T i s else 0),fun j _=>?_⟩;rw [Wb hi hr];show _=_*pivT t r s i j+_*pivT t r s r j;unfold pivT;rw [if_neg e,if_pos rfl]; grind
structure Span (m N:Nat) (t0 t:Tab):Prop where
 to:Comb m N t0 t
 of:Comb m N t t0
 cost:∃ u:Nat->Rat,∀ j,j<N+1->t.c j=t0.c j+sum m fun k=>u k*t0.T k j
theorem Span.refl {m N:Nat} {t:Tab} : Span m N t t:=⟨Comb.refl,Comb.refl,fun _=>0,fun j _=>by rw [sum_zero fun k _=>aJ]; grind⟩
theorem Span.piv {m N:Nat} {t0 t:Tab} (h:Span m N t0 t) {r s:Nat} (hr:r<m) (hp:t.T r s≠0):Span m N t0 (piv t r s):=by
 refine ⟨h.to.trans (Aj4 hr),(Ak3 hr hp).trans h.of,?_⟩;obtain ⟨u,hu⟩:=h.cost;obtain ⟨w,hw⟩:=h.to r hr;refine ⟨fun k=>u k+(- t.c s / t.T r s)*w k,fun j hj=>?_⟩;show t.c j - t.c s*(t.T r j / t.T r s)=_;have e:(sum m fun k=>(u k+(- t.c s / t.T r s)*w k)*t0.T k j)=(sum m fun k=>u k*t0.T k j)+(- t.c s / t.T r s)*sum m fun k=>w k*t0.T k j:=by
  rw [<- Gu,<- sum_add];exact sum_congr fun k _=>aJ
 rw [e,<- hw j hj,hu j hj]; grind
end Go.Proofs.YthelkgdmgihhiaaGreat.Simp
namespace Go.Proofs.YthelkgdmgihhiaaGreat.Simp
end Go.Proofs.YthelkgdmgihhiaaGreat.Simp
namespace Go.Proofs.YthelkgdmgihhiaaGreat
open Go
end Go.Proofs.YthelkgdmgihhiaaGreat
namespace Go.Proofs.YthelkgdmgihhiaaGreat
open Go
theorem Mo {l:List Int} {i:Nat} {x:Int} (h:i<l.length):(l.set i x).drop i=x :: l.drop (i+1):=by
 rw [Av (Pf h)];congr 1;rw [List.drop_set]; simp
theorem Yi (n:Nat):okD (Cd n 0):=fun d hd=>by
 exact Ya2m
structure Short (A:Nat) (b:Int) (m:Nat) (r:Int) (out:List Int):Prop where
 len:out.length=(dig A).length
 ok:okD out
 r0:0<=r/\r<b
 eqv:val ((dig A).drop m)=val (out.drop m)*b+r
theorem Short.start {A:Nat} {b:Int} (h:0<b):Short A b (dig A).length 0 (Cd (dig A).length 0):=by
 refine ⟨by simp,Yi _,aA,?_⟩;exact Ya2u
theorem Short.step {A:Nat} {b:Int} {m:Nat} {r x:Int} {out:List Int} (h:Short A b m r out) (hm:m≠0) (sk:m<=(dig A).length) (hx:nth (dig A) (m - 1)=some x) :
  Short A b (m - 1) ((r*10000+x).tmod b) (out.set (m - 1) ((r*10000+x).tdiv b))/\0<=(r*10000+x).tdiv b/\(r*10000+x).tdiv b<10000/\0<=(r*10000+x).tmod b/\(r*10000+x).tmod b<b:=by
 have hr:=h.r0;have hxk:=Du (Br A) hx;have hn:0<=r*10000+x:=aA
 have e1:(r*10000+x).tdiv b=(r*10000+x) / b:=C9 hn;have e2:(r*10000+x).tmod b=(r*10000+x) % b:=F5 hn;have m0:=Int.emod_nonneg (r*10000+x) (show b≠0 by omega);have m1:=Int.emod_lt_of_pos (r*10000+x) (show 0<b by omega);have q0:0<=(r*10000+x) / b:=Int.ediv_nonneg hn aA;have q1:(r*10000+x) / b<10000:=Int.ediv_lt_of_lt_mul aA aA;have cq:m - 1+1=m:=aA
 have hlen:m - 1<out.length:=by have:=h.len; omega
 rw [e1,e2];refine ⟨⟨bK,L5 h.ok q0 q1,⟨m0,m1⟩,?_⟩,q0,q1,m0,m1⟩;have hv:=h.eqv;rw [Av hx,Mo hlen,val,val,cq,hv];exact Yas
theorem Al7 {A B Q R:Int} (h:A=Q*B+R) (h0:0<=R) (h1:R<B):A / B=Q/\A % B=R:=by
 exact Ya03
theorem Af8 {A B:Nat} {Q R:Int} (h:(A:Int)=Q*B+R) (h0:0<=R) (h1:R<B):Q=((A / B:Nat):Int)/\R=((A % B:Nat):Int):=by
 obtain ⟨e1,e2⟩:=Al7 h h0 h1;rw [<- e1,<- e2]; exact ⟨rfl,rfl⟩
theorem Short.done {A B:Nat} {r:Int} {out:List Int} (h:Short A B 0 r out):Dk out=dig (A / B)/\r.toNat=A % B:=by
 have hv:=h.eqv;rw [Fs,Fs,B4] at hv;obtain ⟨e1,e2⟩:=Af8 hv h.r0.1 h.r0.2;rw [Dw h.ok,e1];exact ⟨by congr 1,aA⟩
end Go.Proofs.YthelkgdmgihhiaaGreat
namespace Go.Proofs.YthelkgdmgihhiaaGreat
open Go
def padD (v m:Nat):List Int:=padL (dig v) m
theorem M4 {v m:Nat} (h:(dig v).length<=m):(padD v m).length=m:=Vv h
theorem Vu (v m:Nat):val (padD v m)=v:=by rw [padD,Vw,B4]
theorem Vq (v m:Nat):okD (padD v m):=fun d hd=>by
 rcases Cr.1 hd with hd|hd
 ·exact Br v d hd
 ·exact Ya2m
theorem Xj:∀ {l r:List Int},okD l->okD r->l.length=r.length->val l=val r->l=r
 | [],[],_,_,_,_=>rfl
 | d :: l,e :: r,h1,h2,hl,hv=>by
  have g1:=h1 d (by simp);have g2:=h2 e (by simp);simp only [val] at hv;have hde:d=e:=aA
  have ih:=Xj (l:=l) (r:=r) (fun x hx=>h1 x bG) (fun x hx=>h2 x bG) bS aA;rw [hde,ih]
 | [],_ :: _,_,_,hl,_=>dA
 | _ :: _,[],_,_,hl,_=>dA
theorem Vy (n:Nat):((10000 ^ n:Nat):Int)=(10000:Int) ^ n:=Int.natCast_pow ..
theorem Ap8 {a n:Nat} (h:(a:Int)<10000 ^ n):a<10000 ^ n:=by rw [<- Vy] at h; omega
theorem Aqm {a n:Nat} (h:a<10000 ^ n):(a:Int)<10000 ^ n:=by rw [<- Vy]; omega
theorem Ani {l:List Int} {v:Nat} (h:okD l) (hv:val l=v):l=padD v l.length:=by
 have hl:(dig v).length<=l.length:=by
  refine Bg.2 ?_;have:=Acv h;rw [hv] at this;exact Ap8 this
 exact Xj h (Vq _ _) (M4 hl).symm (by rw [hv,Vu])
theorem Akz {l:List Int} (h:okD l) (i:Nat):okD (l.take i):=fun d hd=>h d (gZ hd)
theorem Y3 {l:List Int} {i:Nat} (h:i<=l.length):val l=val (l.take i)+10000 ^ i*val (l.drop i):=by
 have e:=Gc (l.take i) (l.drop i);rw [I9] at e;rw [e];have:(l.take i).length=i:=aB
 rw [this]
theorem R7 {l:List Int} {i:Nat} (h:okD (l.take i)) (hi:i<=l.length):0<=val (l.take i)/\val (l.take i)<10000 ^ i:=by
 have h1:=Acv h;have:(l.take i).length=i:=aB
 rw [this] at h1;exact ⟨En h,h1⟩
theorem Y2 {l:List Int} (h:okD l) {i:Nat} (hi:i<=l.length):val (l.drop i)=val l / 10000 ^ i:=by
 obtain ⟨h1,h2⟩:=R7 (Akz h i) hi;have h3:=Y3 hi;have hp:=Jx i;generalize (10000:Int) ^ i=P at *;have:=(Al7 (A:=val l) (B:=P) (Q:=val (l.drop i)) (R:=val (l.take i)) (by rw [h3,Fp P]; omega) h1 h2).1;exact this.symm
theorem An3 {v m j:Nat} (h:(dig v).length<=m) (hj:j<m):nth (padD v m) j=some ((v / 10000 ^ j % 10000:Nat):Int):=by
 obtain ⟨x,hx⟩:=Ah (show j<(padD v m).length by rw [M4 h]; exact hj);have hk:=Vq v m;have h1:=Y2 hk (i:=j) (by rw [M4 h]; omega);rw [Av hx,val,Vu] at h1;have hxk:=Du hk hx;rw [hx]; congr 1;have e:((v / 10000 ^ j:Nat):Int)=(v:Int) / 10000 ^ j:=by simp
 omega
theorem Af9 (v i j:Nat):v / 10000 ^ (i+j)=v / 10000 ^ i / 10000 ^ j:=by rw [Nat.pow_add,Nat.div_div_eq_div_mul]
structure Off (B m i k:Nat) (q c E:Int) (o:List Int):Prop where
 len:o.length=m
 ok:okD o
 c0:0<=c/\c<=9999
 high:∀ j x,i+(dig B).length<j->nth o j=some x->x=0
 eqv:val o - 10000 ^ (i+k)*(c+q*val ((dig B).drop k))=E
theorem Off.step {B m i k:Nat} {q c E x d y:Int} {o:List Int} (h:Off B m i k q c E o) (hq:0<=q/\q<=9999) (hx:nth o (i+k)=some x) (hd:nth (dig B) k=some d) (hy:y=x - q*d - c) :
  -99990000<=y/\y<=9999/\(y<0->(0 - y+10000 - 1).tdiv 10000<=9999/\0<=(0 - y+10000 - 1).tdiv 10000/\0<=y+(0 - y+10000 - 1).tdiv 10000*10000/\y+(0 - y+10000 - 1).tdiv 10000*10000<=9999/\Off B m i (k+1) q ((0 - y+10000 - 1).tdiv 10000) E (o.set (i+k) (y+(0 - y+10000 - 1).tdiv 10000*10000)))
   /\ (¬ y<0->Off B m i (k+1) q 0 E (o.set (i+k) y)):=by
 have px:=Du (Br B) hd;have hxk:=Du h.ok hx;have hk:=Bb hd;have hc:=h.c0;have p0:0<=q*d:=O7 hq.1 px.1;have p1:q*d<=9999*9999:=Int.mul_le_mul hq.2 aA px.1 aA;have hv:=h.eqv;rw [Av hd,val,I7 q,Int.mul_left_comm] at hv;have main:∀ c' z:Int,0<=c'->c'<=9999->0<=z->z<10000->z=y+c'*10000->Off B m i (k+1) q c' E (o.set (i+k) z):=fun c' z a1 a2 a3 a4 a5=>by
  refine ⟨bK,L5 h.ok a3 a4,⟨a1,a2⟩,fun j u hj hu=>?_,?_⟩
  ·exact Ya02
  ·rw [Gv hx,<- hv,<- Si,Iu,Fp (z - x)];generalize (10000:Int) ^ (i+k)=P at *;generalize val ((dig B).drop (k+1))=D at *;have e1:P*10000*(c'+q*D)=P*(10000*(c'+q*D)):=F1 ..;have e2:P*(z - x)=P*(10000*(c'+q*D)) - P*(c+(q*d+10000*(q*D))):=by
    rw [<- fT]; congr 1;generalize q*D=u at *;generalize q*d=t at *;omega
   omega
 refine ⟨aA,aA,fun hn=>?_,fun hn=>main 0 y aA aA aA aA aA⟩;have e:(0 - y+10000 - 1).tdiv 10000=(0 - y+10000 - 1) / 10000:=C9 aA;rw [e];exact ⟨aA,aA,aA,aA,main _ _ aA aA aA aA rfl⟩
structure Mid (v B m i:Nat) (q:Int) (o:List Int):Prop where
 len:o.length=m
 ok:∀ j x,j≠i+(dig B).length->nth o j=some x->0<=x/\x<10000
 top:∀ x,nth o (i+(dig B).length)=some x->-10000<=x/\x<=9999
 high:∀ j x,i+(dig B).length<j->nth o j=some x->x=0
 q0:((v / 10000 ^ i / B:Nat):Int)<=q/\q<=9999
 eqv:val o=v - 10000 ^ i*(q*B)
theorem Off.start {v B m i:Nat} {q:Int} (hv:(dig v).length<=m) (hR:v / 10000 ^ i<10000*B):Off B m i 0 q 0 (v - 10000 ^ i*(q*B)) (padD v m):=by
 refine ⟨M4 hv,Vq v m,aA,fun j x hj hx=>?_,?_⟩
 ·have hjm:=Bb hx;rw [M4 hv] at hjm;rw [An3 hv hjm] at hx;simp only [A0] at hx;subst hx;have hB:=(Bg (n:=B) (k:=(dig B).length)).1 (Cb _);have e:v / 10000 ^ j=0:=by
   have e1:j=i+((dig B).length+1)+(j - (i+(dig B).length+1)):=aA
   rw [e1,Af9,Af9];have:v / 10000 ^ i / 10000 ^ ((dig B).length+1)=0:=Nat.div_eq_of_lt (by rw [Oj]; omega);rw [this,Nat.zero_div]
  rw [e]; rfl
 ·rw [Vu,Fs,B4,I1]; simp
theorem Off.done {v B m i:Nat} {q c x:Int} {o:List Int} (h:Off B m i (dig B).length q c (v - 10000 ^ i*(q*B)) o) (hx:nth o (i+(dig B).length)=some x) (hq:((v / 10000 ^ i / B:Nat):Int)<=q/\q<=9999):Mid v B m i q (o.set (i+(dig B).length) (x - c)):=by
 have hxk:=Du h.ok hx;have hc:=h.c0;refine ⟨bK,fun j u hj hu=>?_,fun u hu=>?_,fun j u hj hu=>?_,hq,?_⟩
 ·rcases B5 hu with ⟨e,-⟩|⟨-,hu⟩
  ·omega
  ·exact Du h.ok hu
 ·exact Ya30
 ·exact Ya02
 ·have hv:=h.eqv;rw [Fh] at hv;rw [Gv hx,<- hv];simp only [val,O1,Rv];have e:x - c - x=-c:=aA
  rw [e,fR,Fp c]; omega
theorem Mid.val_eq {v B m i:Nat} {q x:Int} {o:List Int} (h:Mid v B m i q o) (hx:nth o (i+(dig B).length)=some x):∃ P,val o=P+10000 ^ (i+(dig B).length)*x/\0<=P/\P<10000 ^ (i+(dig B).length):=by
 have hl:=Bb hx;have hk:okD (o.take (i+(dig B).length)):=Uc fun j y hy=>by
  have hj:=Bb hy;have dy:j<i+(dig B).length:=by simp at hj; omega
  rw [Ae,Iq dy,<- Ae] at hy;exact h.ok j y aA hy
 obtain ⟨h1,h2⟩:=R7 hk aA;refine ⟨_,?_,h1,h2⟩;rw [Y3 (l:=o) (i:=i+(dig B).length) aA,Av hx,val];have hz:∀ l:List Int,(∀ d ∈ l,d=0)->val l=0:=fun l hl=>by
  induction l with
  | nil=>rfl
  | cons d l ih=>rw [val,ih fun d hd=>hl d (by simp [hd]),hl d (by simp)]; rfl
 rw [hz (o.drop (i+(dig B).length+1)) fun d hd=>by
  obtain ⟨j,hj⟩:=List.mem_iff_getElem?.1 hd;rw [O9] at hj;exact h.high (i+(dig B).length+1+j) d aA (by rw [Ae]; exact hj)]
 simp
theorem Ai6 (v i:Nat):∃ L:Nat,(v:Int)=10000 ^ i*((v / 10000 ^ i:Nat):Int)+L/\L<10000 ^ i:=by
 refine ⟨v % 10000 ^ i,?_,Sc _ (gY aL)⟩;have h:=Oy v (10000 ^ i);have:((10000 ^ i*(v / 10000 ^ i)+v % 10000 ^ i:Nat):Int)=v:=by rw [h]
 rw [<- this]; simp
theorem Mid.neg {v B m i:Nat} {q x:Int} {o:List Int} (h:Mid v B m i q o) (hB:0<B) (hx:nth o (i+(dig B).length)=some x) (hn:x<0):((v / 10000 ^ i / B:Nat):Int)<=q - 1:=by
 obtain ⟨P,hP,h0,h1⟩:=h.val_eq hx;obtain ⟨L,hL,ta⟩:=Ai6 v i;have hv:=h.eqv;have hp:=Jx i;have hpp:=Jx (i+(dig B).length);have hneg:val o<0:=by
  have:(10000:Int) ^ (i+(dig B).length)*x<=10000 ^ (i+(dig B).length)*(-1):=Int.mul_le_mul_of_nonneg_left aA aA;omega
 have hlt:10000 ^ i*(((v / 10000 ^ i:Nat):Int) - q*B)<0:=by rw [fT]; omega
 have c9:((v / 10000 ^ i:Nat):Int) - q*B<0:=by
  rcases Int.lt_or_le (((v / 10000 ^ i:Nat):Int) - q*B) 0 with h|h
  ·exact h
  ·have:=O7 (Int.le_of_lt hp) h; omega
 have:((v / 10000 ^ i / B:Nat):Int)<q:=by
  have e:((v / 10000 ^ i / B:Nat):Int)=((v / 10000 ^ i:Nat):Int) / (B:Int):=by simp
  rw [e]; exact Int.ediv_lt_of_lt_mul aA aA
 omega
theorem Mid.done {v B m i:Nat} {q x:Int} {o:List Int} (h:Mid v B m i q o) (hB:0<B) (hx:nth o (i+(dig B).length)=some x) (hn:¬ x<0):q=((v / 10000 ^ i / B:Nat):Int)/\o=padD (v - 10000 ^ i*(v / 10000 ^ i / B*B)) m:=by
 obtain ⟨P,hP,h0,h1⟩:=h.val_eq hx;obtain ⟨L,hL,ta⟩:=Ai6 v i;have hv:=h.eqv;have hp:=Jx i;have hpp:=Jx (i+(dig B).length);have hpos:0<=val o:=by
  have:0<=(10000:Int) ^ (i+(dig B).length)*x:=O7 aA aA;omega
 have hL1':(L:Int)<10000 ^ i:=Aqm ta;have u5 : -(10000 ^ i)<10000 ^ i*(((v / 10000 ^ i:Nat):Int) - q*B):=by rw [fT]; omega
 have lu:0<=((v / 10000 ^ i:Nat):Int) - q*B:=by
  rcases Int.lt_or_le (((v / 10000 ^ i:Nat):Int) - q*B) 0 with h|h
  ·have:(10000:Int) ^ i*(((v / 10000 ^ i:Nat):Int) - q*B)<=10000 ^ i*(-1):=Int.mul_le_mul_of_nonneg_left aA aA;omega
  ·exact h
 have hqe:q=((v / 10000 ^ i / B:Nat):Int):=by
  have e:((v / 10000 ^ i / B:Nat):Int)=((v / 10000 ^ i:Nat):Int) / (B:Int):=by simp
  have h1:=h.q0.1;have h2:q<=((v / 10000 ^ i:Nat):Int) / (B:Int):=by rw [Int.le_ediv_iff_mul_le aA]; omega
  omega
 refine ⟨hqe,?_⟩;have hk:okD o:=Uc fun j y hy=>by
  by_cases e:j=i+(dig B).length
  ·subst e; rw [hx] at hy; simp only [A0] at hy; have:=h.top x hx; omega
  ·exact h.ok j y e hy
 have hle:10000 ^ i*(v / 10000 ^ i / B*B)<=v:=by
  refine Fv (S5 _ (Nat.div_mul_le_self _ _)) (Nat.mul_div_le _ _)
 have iw:val o=((v - 10000 ^ i*(v / 10000 ^ i / B*B):Nat):Int):=by
  rw [hv,hqe,Int.ofNat_sub hle]; simp
 have:=Ani hk iw;rw [h.len] at this;exact this
structure Back (v B m i k:Nat) (q c:Int) (o:List Int):Prop where
 len:o.length=m
 ok:∀ j x,j≠i+(dig B).length->nth o j=some x->0<=x/\x<10000
 top:∀ x,nth o (i+(dig B).length)=some x->-10000<=x/\x<0
 high:∀ j x,i+(dig B).length<j->nth o j=some x->x=0
 c0:0<=c/\c<=1
 q0:((v / 10000 ^ i / B:Nat):Int)<=q/\q<=9999
 eqv:val o+10000 ^ (i+k)*(c+val ((dig B).drop k))=v - 10000 ^ i*(q*B)
theorem Back.step {v B m i k:Nat} {q c x d y:Int} {o:List Int} (h:Back v B m i k q c o) (hx:nth o (i+k)=some x) (hd:nth (dig B) k=some d) (hy:y=x+d+c) :
  Back v B m i (k+1) q (y.tdiv 10000) (o.set (i+k) (y.tmod 10000))/\0<=y/\y<=19999/\0<=x/\x<10000:=by
 have px:=Du (Br B) hd;have hk:=Bb hd;have hxk:=h.ok _ x aA hx;have hc:=h.c0;have e1:y.tdiv 10000=y / 10000:=C9 aA;have e2:y.tmod 10000=y % 10000:=F5 aA;refine ⟨⟨bK,fun j u hj hu=>?_,fun u hu=>?_,fun j u hj hu=>?_,aA,h.q0,?_⟩,aA,aA,hxk.1,hxk.2⟩
 ·rcases B5 hu with ⟨-,e⟩|⟨-,hu⟩
  ·omega
  ·exact h.ok j u hj hu
 ·rcases B5 hu with ⟨e,-⟩|⟨-,hu⟩
  ·omega
  ·exact h.top u hu
 ·exact Ya02
 ·have hv:=h.eqv;rw [Av hd,val] at hv;rw [Gv hx,<- hv,<- Si,Iu,Fp (y.tmod 10000 - x)];generalize (10000:Int) ^ (i+k)=P at *;generalize val ((dig B).drop (k+1))=D at *;rw [F1,gN,<- I7];congr 2;omega
theorem Back.done {v B m i:Nat} {q c x:Int} {o:List Int} (h:Back v B m i (dig B).length q c o) (hx:nth o (i+(dig B).length)=some x):Mid v B m i q (o.set (i+(dig B).length) (x+c)):=by
 have hxk:=h.top x hx;have hc:=h.c0;refine ⟨bK,fun j u hj hu=>?_,fun u hu=>?_,fun j u hj hu=>?_,h.q0,?_⟩
 ·rcases B5 hu with ⟨e,-⟩|⟨-,hu⟩
  ·omega
  ·exact h.ok j u hj hu
 ·exact Ya30
 ·exact Ya02
 ·have hv:=h.eqv;rw [Fh] at hv;rw [Gv hx,<- hv];simp only [val,Rv];have e:x+c - x=c:=aA
  rw [e,Fp c]
end Go.Proofs.YthelkgdmgihhiaaGreat
namespace Go.Proofs.YthelkgdmgihhiaaGreat
open Go
end Go.Proofs.YthelkgdmgihhiaaGreat
namespace Go.Proofs.YthelkgdmgihhiaaGreat
open Go
structure Quo (A B L j v:Nat) (out:List Int):Prop where
 len:out.length=L
 ok:okD out
 lt:v<B*10000 ^ j
 le:v<=A
 eqv:(A:Int)=v+10000 ^ j*(val (out.drop j)*B)
theorem Ap3 {B:Nat} (hB:0<B):10000 ^ ((dig B).length - 1)<=B:=by
 have h0:(dig B).length≠0:=fun h=>by
  have:=Gq.1 (C5.1 h); omega
 rcases Ic B (10000 ^ ((dig B).length - 1)) with h|h
 ·have:=(Bg (n:=B) (k:=(dig B).length - 1)).2 h; omega
 ·exact h
theorem Quo.start {A B:Nat} (hB:0<B) (hAB:B<=A):Quo A B ((dig A).length - (dig B).length+1) ((dig A).length - (dig B).length+1) A (Cd ((dig A).length - (dig B).length+1) 0):=by
 refine ⟨by simp,Yi _,?_,Cb _,?_⟩
 ·have h1:=(Bg (n:=A) (k:=(dig A).length)).1 (Cb _);have h2:=Ap3 hB;have h0:(dig B).length≠0:=fun h=>by
   have:=Gq.1 (C5.1 h); omega
  have h3:=Ab0 hAB;have h4:=F0 (10000 ^ ((dig A).length - (dig B).length+1)) h2;rw [<- Nat.pow_add] at h4;have e:(dig B).length - 1+((dig A).length - (dig B).length+1)=(dig A).length:=aA
  rw [e] at h4;omega
 ·rw [Ff (by simp)]; simp [val]
theorem Quo.top {A B L j v:Nat} {out:List Int} (h:Quo A B L j v out) (hj:j≠0):v / 10000 ^ (j - 1)<10000*B:=by
 rw [I8 (gY aL)];have:=h.lt;have e:j=(j - 1)+1:=aA
 rw [e,Oj] at this;rw [I2 10000 B,Nat.mul_assoc,I2 10000]; exact this
theorem Quo.step {A B L j v:Nat} {out:List Int} (h:Quo A B L j v out) (hB:0<B) (hj:j≠0) (io:j<=L) :
  Quo A B L (j - 1) (v - 10000 ^ (j - 1)*(v / 10000 ^ (j - 1) / B*B)) (out.set (j - 1) ((v / 10000 ^ (j - 1) / B:Nat):Int)):=by
 have ht:=h.top hj;have hq:v / 10000 ^ (j - 1) / B<10000:=by rw [I8 hB]; omega
 have jn:v / 10000 ^ (j - 1) / B*B<=v / 10000 ^ (j - 1):=Nat.div_mul_le_self _ _;have pq:10000 ^ (j - 1)*(v / 10000 ^ (j - 1) / B*B)<=v:=Fv (S5 _ jn) (Nat.mul_div_le _ _);have a18:=Sc (v / 10000 ^ (j - 1)) hB;have hdm:=Oy (v / 10000 ^ (j - 1)) B;have hdv:=Oy v (10000 ^ (j - 1));have sk:=Sc v (gY (n:=j - 1) (show 0<10000 by decide));have hj1:j - 1+1=j:=aA
 refine ⟨bK,L5 h.ok (fL _) (Int.ofNat_lt.2 hq),?_,by have:=h.le; omega,?_⟩
 ·generalize 10000 ^ (j - 1)=P at *;generalize v / P / B=q at *;generalize v % P=l at *;generalize v / P % B=r at *;generalize v / P=R at *;have e1:P*R=P*(B*q)+P*r:=by rw [<- hdm,Nat.mul_add]
  have e2:P*(q*B)=P*(B*q):=by rw [I2 q B]
  have e3:P*r+P<=B*P:=by
   rw [<- Nat.mul_succ,I2]; exact F0 _ a18
  omega
 ·have hv:=h.eqv;have hlt:j - 1<out.length:=by have:=h.len; omega
  rw [Mo hlt,val,hj1,Int.ofNat_sub pq,hv];have hp:(10000:Int) ^ j=10000 ^ (j - 1)*10000:=by
   have:=Iu (10000:Int) (j - 1);rwa [Nat.succ_eq_add_one,hj1] at this
  rw [hp,iC,iC,Vy,Int.add_mul,I7];generalize (10000:Int) ^ (j - 1)=P;generalize ((v / 10000 ^ (j - 1) / B:Nat):Int)*(B:Int)=t;rw [F1 P 10000,F1 10000 _ (B:Int)];omega
theorem Quo.done {A B L v:Nat} {out:List Int} (h:Quo A B L 0 v out):Dk out=dig (A / B)/\v=A % B:=by
 have hv:=h.eqv;have hl:=h.lt;rw [Fs,Int.pow_zero,Int.one_mul] at hv;rw [Nat.pow_zero,Ia] at hl;obtain ⟨e1,e2⟩:=Af8 (Q:=val out) (R:=(v:Int)) (by rw [hv,Int.add_comm]) (fL _) (Int.ofNat_lt.2 hl);rw [Dw h.ok,e1];exact ⟨by congr 1,Int.ofNat.inj e2⟩
end Go.Proofs.YthelkgdmgihhiaaGreat
namespace Go.Proofs.YthelkgdmgihhiaaGreat
open Go
end Go.Proofs.YthelkgdmgihhiaaGreat
namespace Go.Proofs.YthelkgdmgihhiaaGreat
open Go
section
def eqV:Value->Value->Bool
 | .int k n,.int k' n'=>decide (k=k') && decide (n=n')
 | .bool a,.bool b=>decide (a=b)
 | .string s,.string t=>sEq s t
 | _,_=>false
theorem Apw {a b:Value} (h:eqV a b=true):a=b:=by
 unfold eqV at h;split at h
 ·simp at h; rw [h.1,h.2]
 ·simp at h; rw [h]
 ·rw [Uh] at h;congr 1;simpa using h
 ·cases h
def eqK:Cap->Cap->Bool
 | .unk,.unk=>true
 | .tight,.tight=>true
 | .tok a b c,.tok a' b' c'=>decide (a=a') && decide (b=b') && decide (c=c')
 | .nilc,.nilc=>true
 | .nl,.nl=>true
 | .nn,.nn=>true
 | _,_=>false
theorem Apv {a b:Cap} (h:eqK a b=true):a=b:=by
 unfold eqK at h;split at h <;> simp_all
mutual
def eqA:AV->AV->Bool
 | .bot,.bot=>true
 | .prim v,.prim v'=>eqV v v'
 | .frz es c,.frz es' c'=>eqMM es es' && eqK c c'
 | .fptr cs,.fptr cs'=>eqM cs cs'
 | .agg cs,.agg cs'=>eqM cs cs'
 | .tup cs,.tup cs'=>eqM cs cs'
 | .ref a b c,.ref a' b' c'=>decide (a=a') && decide (b=b') && decide (c=c')
 | .sref a b c d e,.sref a' b' c' d' e'=>decide (a=a') && decide (b=b') && decide (c=c') && decide (d=d') && decide (e=e')
 | .fn f cs,.fn f' cs'=>decide (f=f') && eqM cs cs'
 | .bfn f cs,.bfn f' cs'=>decide (f=f') && eqM cs cs'
 | .ifc t v,.ifc t' v'=>decide (t=t') && eqA v v'
 | .mfn t m v,.mfn t' m' v'=>decide (t=t') && decide (m=m') && eqA v v'
 | .lit n cs,.lit n' cs'=>decide (n=n') && eqM cs cs'
 | _,_=>false
def eqM:List AV->List AV->Bool
 | [],[]=>true
 | x :: l,y :: m=>eqA x y && eqM l m
 | _,_=>false
def eqMM:List (List AV)->List (List AV)->Bool
 | [],[]=>true
 | x :: l,y :: m=>eqM x y && eqMM l m
 | _,_=>false
end
mutual
theorem Xi:∀ {a b:AV},eqA a b=true->a=b
 | .bot,b,h=>by cases b <;> simp [eqA] at h ⊢
 | .prim v,b,h=>by cases b <;> simp [eqA] at h ⊢; exact Apw h
 | .frz es c,b,h=>by cases b <;> simp [eqA] at h ⊢; exact ⟨Agj h.1,Apv h.2⟩
 | .fptr cs,b,h=>Za1c
 | .agg cs,b,h=>Za1c
 | .tup cs,b,h=>Za1c
 | .ref ..,b,h=>by cases b <;> simp [eqA] at h ⊢; exact ⟨h.1.1,h.1.2,h.2⟩
 | .sref ..,b,h=>by cases b <;> simp [eqA] at h ⊢; exact ⟨h.1.1.1.1,h.1.1.1.2,h.1.1.2,h.1.2,h.2⟩
 | .fn f cs,b,h=>Za10
 | .bfn f cs,b,h=>Za10
 | .ifc t v,b,h=>by cases b <;> simp [eqA] at h ⊢; exact ⟨h.1,Xi h.2⟩
 | .mfn t m v,b,h=>by cases b <;> simp [eqA] at h ⊢; exact ⟨h.1.1,h.1.2,Xi h.2⟩
 | .lit n cs,b,h=>Za10
theorem Ls:∀ {a b:List AV},eqM a b=true->a=b
 | [],b,h=>by cases b <;> simp [eqM] at h ⊢
 | x :: l,b,h=>by cases b <;> simp [eqM] at h ⊢; exact ⟨Xi h.1,Ls h.2⟩
theorem Agj:∀ {a b:List (List AV)},eqMM a b=true->a=b
 | [],b,h=>by cases b <;> simp [eqMM] at h ⊢
 | x :: l,b,h=>by cases b <;> simp [eqMM] at h ⊢; exact ⟨Ls h.1,Agj h.2⟩
end
def isB1:List AV->Bool
 | [.prim (.bool _)]=>true
 | _=>false
theorem Ag4 {l:List AV} (h:isB1 l=true):∃ b,l=[.prim (.bool b)]:=by
 unfold isB1 at h;split at h
 ·exact ⟨_,rfl⟩
 ·cases h
def gOB:List Ent->List Ent->Bool
 | [],[]=>true
 | e :: S,e' :: S'=>decide (e.ep=e'.ep) && (eqM e.cells e'.cells || (isB1 e.cells && isB1 e'.cells)) && gOB S S'
 | _,_=>false
theorem Ama:∀ {S S':List Ent},gOB S S'=true->Vh S S'
 | [],[],_=>⟨rfl,fun _=>.inl rfl⟩
 | [],_ :: _,h=>by simp [gOB] at h
 | _ :: _,[],h=>by simp [gOB] at h
 | e :: S,e' :: S',h=>by
  simp only [gOB,Cf,Fz,decide_eq_true_eq] at h;obtain ⟨⟨h1,h2⟩,h3⟩:=h;obtain ⟨g1,g2⟩:=Ama h3;refine ⟨by simp [g1],fun i=>?_⟩;cases i with
  | zero =>
   obtain ⟨ep,cs⟩:=e;obtain ⟨ep',cs'⟩:=e';simp only at h1 h2;subst h1;rcases h2 with h2|⟨h2,h4⟩
   ·left; rw [Ls h2]; rfl
   ·obtain ⟨b,rfl⟩:=Ag4 h2;obtain ⟨b',rfl⟩:=Ag4 h4;exact .inr ⟨ep,b,b',rfl,rfl⟩
  | succ i=>exact g2 i
/- slots in a tree -/
inductive Pat where|z|o (p:Pat)|e (p:Pat)
inductive Trs where|l|n (v:AV) (a b:Trs)
def paF:Nat->Nat->Pat
 | 0,_=>.z
 | f+1,k=>if k=0 then .z else if k % 2=1 then .o (paF f (k / 2)) else .e (paF f (k / 2 - 1))
def pth (k:Nat):Pat:=paF k k
theorem Z9:∀ {f g k j:Nat},k<=f->j<=g->paF f k=paF g j->k=j
 | 0,g,k,j,h1,h2,h=>by
  obtain rfl:k=0:=aA
  cases g with
  | zero=>omega
  | succ g =>
   simp only [paF] at h;split at h
   ·omega
   ·split at h <;> cases h
 | f+1,0,k,j,h1,h2,h=>by
  obtain rfl:j=0:=aA
  simp only [paF] at h;split at h
  ·omega
  ·split at h <;> cases h
 | f+1,g+1,k,j,h1,h2,h=>by
  simp only [paF] at h;by_cases hk:k=0
  ·by_cases hj:j=0
   ·omega
   ·rw [if_pos hk,if_neg hj] at h; split at h <;> cases h
  ·rw [if_neg hk] at h;by_cases hj:j=0
   ·rw [if_pos hj] at h; split at h <;> cases h
   ·rw [if_neg hj] at h;split at h
    ·split at h
     ·have:=Z9 aA aA (Pat.o.inj h); omega
     ·cases h
    ·split at h
     ·cases h
     ·have:=Z9 aA aA (Pat.e.inj h); omega
theorem Ah3 {k j:Nat} (h:pth k=pth j):k=j:=Z9 (Cb _) (Cb _) h
noncomputable def gT (p:Pat):Trs->AV :=
 Pat.rec (motive:=fun _=>Trs->AV) (fun t=>Trs.rec (motive:=fun _=>AV) .bot (fun v _ _ _ _=>v) t)
  (fun _ ih t=>ih (Trs.rec (motive:=fun _=>Trs) .l (fun _ a _ _ _=>a) t)) (fun _ ih t=>ih (Trs.rec (motive:=fun _=>Trs) .l (fun _ _ b _ _=>b) t)) p
noncomputable def sT (v:AV) (p:Pat):Trs->Trs :=
 Pat.rec (motive:=fun _=>Trs->Trs) (fun t=>Trs.rec (motive:=fun _=>Trs) (.n v .l .l) (fun _ a b _ _=>.n v a b) t)
  (fun _ ih t=>Trs.rec (motive:=fun _=>Trs) (.n .bot (ih .l) .l) (fun u a b _ _=>.n u (ih a) b) t) (fun _ ih t=>Trs.rec (motive:=fun _=>Trs) (.n .bot .l (ih .l)) (fun u a b _ _=>.n u a (ih b)) t) p
theorem gT_l:∀ {p:Pat},gT p .l=.bot
 | .z=>rfl
 | .o p=>gT_l (p:=p)
 | .e p=>gT_l (p:=p)
theorem No {v:AV} : ∀ {p:Pat} {t:Trs},gT p (sT v p t)=v
 | .z,.l=>rfl
 | .z,.n _ _ _=>rfl
 | .o p,.l=>No (p:=p) (t:=.l)
 | .o p,.n _ a _=>No (p:=p) (t:=a)
 | .e p,.l=>No (p:=p) (t:=.l)
 | .e p,.n _ _ b=>No (p:=p) (t:=b)
theorem Adf {v:AV} : ∀ {p q:Pat} {t:Trs},q≠p->gT q (sT v p t)=gT q t
 | .z,.z,_,h=>absurd rfl h
 | .z,.o q,.l,_=>rfl
 | .z,.o q,.n _ _ _,_=>rfl
 | .z,.e q,.l,_=>rfl
 | .z,.e q,.n _ _ _,_=>rfl
 | .o p,.z,.l,_=>rfl
 | .o p,.z,.n _ _ _,_=>rfl
 | .o p,.o q,.l,h=>(Adf (p:=p) (q:=q) (t:=.l) fun e=>h (e ▸ rfl))
 | .o p,.o q,.n _ a _,h=>(Adf (p:=p) (q:=q) (t:=a) fun e=>h (e ▸ rfl))
 | .o p,.e q,.l,_=>rfl
 | .o p,.e q,.n _ _ _,_=>rfl
 | .e p,.z,.l,_=>rfl
 | .e p,.z,.n _ _ _,_=>rfl
 | .e p,.o q,.l,_=>rfl
 | .e p,.o q,.n _ _ _,_=>rfl
 | .e p,.e q,.l,h=>(Adf (p:=p) (q:=q) (t:=.l) fun e=>h (e ▸ rfl))
 | .e p,.e q,.n _ _ b,h=>(Adf (p:=p) (q:=q) (t:=b) fun e=>h (e ▸ rfl))
noncomputable def opT (t:Trs):Operand->AV
 | .tmp k=>gT (pth k) t
 | .const v=>cst v
 | .global _=>.bot
 | .func f=>.fn f []
structure Rl (N:Nat) (T:List AV) (t:Trs):Prop where
 len:T.length=N
 get:∀ k,getT T k=gT (pth k) t
theorem Abv {v:AV} : ∀ {T:List AV} {d k:Nat},d<T.length->getT (put T d v) k=if k=d then v else getT T k
 | [],d,k,h=>absurd h (Nat.not_lt_zero _)
 | _ :: T,0,0,_=>rfl
 | _ :: T,0,k+1,_=>by simp [put,getT]
 | _ :: T,d+1,0,_=>by simp [put,getT]
 | _ :: T,d+1,k+1,h=>by
  simp only [put,getT];rw [Abv aI];simp
theorem Rl.op {N:Nat} {T:List AV} {t:Trs} (h:Rl N T t):opv T=opT t:=funext fun o=>by cases o <;> simp [opv,opT,h.get]
def dsT (N:Nat):Option Tmp->Option (Option Pat)
 | none=>some none
 | some d=>bif Nat.blt d N then some (some (pth d)) else none
noncomputable def pT (q:Option Pat) (v:AV) (t:Trs):Trs:=match q with|none=>t|some p=>sT v p t
theorem Rl.put {N:Nat} {T:List AV} {t:Trs} (h:Rl N T t) {d:Option Tmp} {q:Option Pat} (hd:dsT N d=some q) {v:AV} : Rl N (putT T d v) (pT q v t):=by
 cases d with
 | none=>simp only [dsT,A0] at hd; subst hd; exact h
 | some d =>
  simp only [dsT] at hd;cases hlt:Nat.blt d N with
  | false=>rw [hlt] at hd; cases hd
  | true =>
   rw [hlt] at hd;simp only [cond_true,A0] at hd;subst hd;have hd:d<T.length:=by rw [h.len]; simpa using hlt
   refine ⟨by simp only [putT,Am,h.len],fun k=>?_⟩;simp only [putT,pT];rw [Abv hd];split
   ·rename_i e; subst e; rw [No]
   ·rename_i e; rw [Adf fun e'=>e (Ah3 e'),h.get]
noncomputable def tlF (t:Trs):Nat->Nat->List AV
 | 0,_=>[]
 | n+1,k=>gT (pth k) t :: tlF t n (k+1)
theorem Agn:∀ {T U:List AV},T.length=U.length->(∀ k,getT T k=getT U k)->T=U
 | [],[],_,_=>rfl
 | _ :: T,_ :: U,h,g=>by
  have h0:=g 0;simp only [getT] at h0;rw [h0,Agn aI fun k=>g (k+1)]
theorem Aiz {t:Trs} : ∀ {n k j:Nat},j<n->getT (tlF t n k) j=gT (pth (k+j)) t
 | n+1,k,0,_=>rfl
 | n+1,k,j+1,h=>by
  simp only [tlF,getT];rw [Aiz aA,show k+1+j=k+(j+1) by omega]
theorem Aao {t:Trs} : ∀ {n k:Nat},(tlF t n k).length=n
 | 0,_=>rfl
 | n+1,k=>by simp [tlF,Aao]
theorem P0:∀ {T:List AV} {k:Nat},T.length<=k->getT T k=.bot
 | [],_,_=>rfl
 | _ :: T,0,h=>aM
 | _ :: T,k+1,h=>P0 (T:=T) aI
theorem Rl.list {N:Nat} {T:List AV} {t:Trs} (h:Rl N T t):tlF t N 0=T:=by
 refine Agn (by rw [Aao,h.len]) fun k=>?_;by_cases hk:k<N
 ·rw [Aiz hk,h.get,Fo]
 ·rw [P0 (by rw [Aao]; omega),P0 (by rw [h.len]; omega)]
noncomputable def iniT:Nat->List AV->Trs->Trs
 | _,[],t=>t
 | k,a :: l,t=>iniT (k+1) l (sT a (pth k) t)
theorem Aby:∀ {l:List AV} {k j:Nat} {t:Trs},gT (pth j) (iniT k l t)=if k<=j/\j<k+l.length then getT l (j - k) else gT (pth j) t
 | [],k,j,t=>by rw [if_neg (by simp only [C3]; omega)]; rfl
 | a :: l,k,j,t=>by
  simp only [iniT,Ck];rw [Aby];by_cases h1:k+1<=j/\j<k+1+l.length
  ·rw [if_pos h1,if_pos aA,show j - k=(j - (k+1))+1 by omega]; rfl
  ·rw [if_neg h1];by_cases h2:j=k
   ·subst h2; rw [No,if_pos aA,I3]; rfl
   ·rw [Adf fun e=>h2 (Ah3 e),if_neg aA]
theorem Abt {b:Nat} : ∀ {l:List AV} {k:Nat},getT (l++Cd b .bot) k=getT l k
 | [],k=>by
  induction b generalizing k with
  | zero=>rfl
  | succ b ih=>cases k with
   | zero=>rfl
   | succ k=>exact (ih (k:=k))
 | _ :: l,0=>rfl
 | _ :: l,k+1=>Abt (l:=l)
theorem Rl.ini {args:List AV} {b:Nat} : Rl (args.length+b) (args++Cd b .bot) (iniT 0 args .l):=by
 refine ⟨by simp,fun k=>?_⟩;rw [Abt,Aby];split
 ·rfl
 ·rw [gT_l,P0 aA]
/- operations -/
structure StT where
 t:Trs
 S:List Ent
 tk:List Nat
 n:Nat
abbrev ResT:=Option (AV × List Ent × List Nat × Nat)
inductive Clo where|bad|mk (f:Trs->List Ent->List Nat->Nat->ResT)
variable {P:Program}
noncomputable def bO {α β:Type} (x:Option α) (f:α->Option β):Option β:=Option.rec (motive:=fun _=>Option β) none (fun a=>f a) x
noncomputable def Apm (P:Program) (call:Bd) (c:Call):Clo :=
 match c.callee with
 | .invoke x m=>.mk fun t S tk n=>match opT t x with
  | .ifc ty v=>bO (mRow P ty m) fun f=>call f (v :: c.args.toList.map (opT t)) S tk n
  | _=>none
 | .value (.func f)=>.mk fun t S tk n=>call f (c.args.toList.map (opT t)) S tk n
 | .value x=>.mk fun t S tk n=>match opT t x with
  | .fn f caps=>call f (c.args.toList.map (opT t)++caps) S tk n
  | .bfn f first=>call f (first++c.args.toList.map (opT t)) S tk n
  | _=>none
 | _=>.bad
noncomputable def apT1 [Globs] (P:Program) (o:Oper) (c:Call):Clo :=
 match c.args.toList,c.argTypes.toList with
 | [x,y],[t,t']=>bif Globs.own o.dst o.type then (if t=t' then .mk fun m S tk n=>bO (apO P t (opT m x) (opT m y) S n) fun a=>some (a.1,a.2.1,tk,a.2.2) else .bad)
  else if t=t' then .mk fun m S tk n=>bO (apB1 P t (opT m x) (opT m y) tk S) fun a=>some (a.1,S,a.2,n)
  else .mk fun m S tk n=>bO (apS P t t' (opT m x) (opT m y) tk) fun a=>some (a.1,S,a.2,n)
 | _,_=>.bad
noncomputable def clo [Globs] (P:Program) (call:Bd) (o:Oper):Clo :=
 match o.op with
 | .move x=>.mk fun t S tk n=>some (opT t x,S,tk,n)
 | .assign x=>.mk fun t S tk n=>some (opT t x,S,tk,n)
 | .load ty a=>.mk fun t S tk n=>bO (ldA P ty (opT t a) S) fun v=>some (v,S,tk,n)
 | .store ty a v=>.mk fun t S tk n=>bO (stA P ty (opT t a) (opT t v) S) fun S=>some (.prim undef,S,tk,n)
 | .binOp b ty x y _=>.mk fun t S tk n=>bO (aBin P b ty (opT t x) (opT t y)) fun v=>some (v,S,tk,n)
 | .indexAddr ty x i=>.mk fun t S tk n=>bO (idxA P ty (opT t x) (opT t i)) fun v=>some (v,S,tk,n)
 | .fieldAddr ty x k=>.mk fun t S tk n=>bO (fldA P ty (opT t x) k) fun v=>some (v,S,tk,n)
 | .alloc ty=>.mk fun _ S tk n=>bO (Ar P ty) fun cs=>some (.ref S.length n 0,S++[⟨n,cs⟩],tk,n+1)
 | .box _ x=>.mk fun t S tk n=>bO (cellsOf (opT t x)) fun cs=>some (.ref S.length n 0,S++[⟨n,cs⟩],tk,n+1)
 | .makeSlice ty l c=>bif Q5 o l then .mk fun t S tk n=>bO (mkA P ty (opT t l) (opT t c)) fun a=>some (mkV (len0 l) tk.length a.1 a.2.1 a.2.2,S,tk++[0],n)
  else .mk fun t S tk n=>bO (mkA P ty (opT t l) (opT t c)) fun a=>some (.sref S.length n 0 a.1 a.2.1,S++[⟨n,a.2.2⟩],tk,n+1)
 | .call c=>(match c.callee with
  | .builtin .append=>apT1 P o c
  | .builtin .copy=>(match c.args.toList,c.argTypes.toList with
   | [d,s],[ty,_]=>.mk fun t S tk n=>bO (cpA P ty (opT t d) (opT t s) S) fun a=>some (Cg (a.1:Int),a.2,tk,n)
   | _,_=>.bad)
  | .builtin _=>.mk fun t S tk n=>bO (evQ P o (opT t)) fun v=>some (v,S,tk,n)
  | _=>Apm P call c)
 | _=>.mk fun t S tk n=>bO (evQ P o (opT t)) fun v=>some (v,S,tk,n)
theorem App [Globs] {call:Bd} {o:Oper} {f:Trs->List Ent->List Nat->Nat->ResT} (hf:clo P call o=.mk f) {N:Nat} {T:List AV} {t:Trs} (hr:Rl N T t) {S S':List Ent} {tk tk':List Nat} {n n':Nat} {v:AV} (h:f t S tk n=some (v,S',tk',n')):evO P call o ⟨T,S,tk,n⟩=some (v,⟨T,S',tk',n'⟩):=by
 have hop:=hr.op;have key:∀ {α:Type} {x:Option α} {g:α->ResT} {k:α->AV × St},(∀ a,g a=some (v,S',tk',n')->k a=(v,⟨T,S',tk',n'⟩))->bO x g=some (v,S',tk',n')->x.map k=some (v,⟨T,S',tk',n'⟩):=by
  intro α x g k hg hx;cases x with
  | none=>cases hx
  | some a=>rw [Cu,hg a hx]
 have hq:∀ {x:Option AV},evQ P o (opT t)=x->bO x (fun v=>some (v,S,tk,n))=some (v,S',tk',n')->(evQ P o (opT t)).map (fun v=>(v,(⟨T,S,tk,n⟩:St)))=some (v,⟨T,S',tk',n'⟩):=by
  intro x hx h;rw [hx];exact key dI h
 have ci:∀ {f args},call f args S tk n=some (v,S',tk',n')->(call f args S tk n).map (fun x=>(x.1,(⟨T,x.2.1,x.2.2.1,x.2.2.2⟩:St)))=some (v,⟨T,S',tk',n'⟩):=fun h=>by rw [h]; rfl
 unfold clo at hf;unfold evO;split at hf;case h_1 x ho=>rw [ho]; cases hf; simp only [hop]; exact hq (x:=some (opT t x)) dG h
 case h_2 x ho=>rw [ho]; cases hf; simp only [hop]; exact hq (x:=some (opT t x)) dG h
 case h_3 ho=>rw [ho]; cases hf; simp only [hop]; exact key dI h
 case h_4 ho=>rw [ho]; cases hf; simp only [hop]; exact key dI h
 case h_5 b ty x y _ ho=>rw [ho]; cases hf; simp only [hop]; exact hq (x:=aBin P b ty (opT t x) (opT t y)) dG h
 case h_6 ty x i ho=>rw [ho]; cases hf; simp only [hop]; exact hq (x:=idxA P ty (opT t x) (opT t i)) dG h
 case h_7 ty x k ho=>rw [ho]; cases hf; simp only [hop]; exact hq (x:=fldA P ty (opT t x) k) dG h
 case h_8 ho=>rw [ho]; cases hf; simp only; exact key dI h
 case h_9 ho=>rw [ho]; cases hf; simp only [hop]; exact key dI h
 case h_10 ty l c ho =>
  rw [ho]
  cases hg:Q5 o l with
  | true=>rw [hg] at hf; cases hf; simp only [hop,hg]; exact key Za3m h
  | false=>rw [hg] at hf; cases hf; simp only [hop,hg]; exact key Za3m h
 case h_11 c ho =>
  rw [ho]
  simp only at hf ⊢
  split at hf
  case h_1 hc =>
   rw [hc]
   unfold apT1 at hf
   simp only
   split at hf
   ·rename_i x y t1 t2 e1 e2
    rw [e1,e2]
    simp only [Cm,Cw,hop]
    cases hg:(Globs.own o.dst o.type:Bool) with
    | true =>
     rw [hg] at hf
     simp only [cond_true] at hf
     split at hf
     ·rename_i e; cases hf; rw [if_pos rfl,if_pos e]; exact key Za3m h
     ·cases hf
    | false =>
     rw [hg] at hf
     simp only [cond_false] at hf
     rw [if_neg (by simp)]
     split at hf
     ·rename_i e; cases hf; rw [if_pos e]; exact key Za3x h
     ·rename_i e; cases hf; rw [if_neg e]; exact key Za3x h
   ·cases hf
  case h_2 hc =>
   rw [hc]
   simp only
   split at hf
   ·rename_i x y t1 t2 e1 e2
    rw [e1,e2]
    cases hf
    simp only [Cm,Cw,hop]
    exact key Za3x h
   ·cases hf
  case h_3 b b1 b2 hc =>
   cases hf
   split
   case h_1 e=>exact (b1 (Callee.builtin.inj (hc.symm.trans e))).elim
   case h_2 e=>exact (b2 (Callee.builtin.inj (hc.symm.trans e))).elim
   case h_3 e=>simp only [hop]; exact hq rfl h
   case h_4 e1 e2 e3=>exact (e3 _ hc).elim
  case h_4 b1 b2 b3 =>
   split
   case h_1 e=>exact (b1 e).elim
   case h_2 e=>exact (b2 e).elim
   case h_3 e=>exact (b3 _ e).elim
   case h_4 e1 e2 e3 =>
    unfold Apm at hf
    unfold Ed
    simp only [hop]
    split at hf
    case h_1 x m hc =>
     rw [hc]
     cases hf
     dsimp only at h ⊢
     cases hx:opT t x <;> rw [hx] at h
     case ifc ty u =>
      dsimp only at h ⊢
      cases hm:mRow P ty m with
      | none=>rw [hm] at h; cases h
      | some f=>rw [hm] at h; simp only [Cu]; exact ci h
     all_goals (cases h; done)
    case h_2 f hc =>
     rw [hc]
     cases hf
     simp only [opT,Fu]
     exact ci h
    case h_3 x hx hc =>
     rw [hc]
     cases hf
     dsimp only at h ⊢
     cases hx:opT t x <;> rw [hx] at h
     case fn=>exact ci h
     case bfn=>exact ci h
     all_goals (cases h; done)
    case h_4=>cases hf
 case h_12 a1 a2 a3 a4 a5 a6 a7 a8 a9 a10 a11 =>
  cases hf
  split
  case h_7=>simp only [hop]; exact hq rfl h
  all_goals (rename_i ho; first|exact (a3 _ _ ho).elim|exact (a4 _ _ _ ho).elim|exact (a8 _ ho).elim|exact (a9 _ _ ho).elim|exact (a10 _ _ _ ho).elim|exact (a11 _ ho).elim)
inductive Gua where|no|sl (p:Pat) (w:Bool)|bad
def gdT (all:List Oper) (o:Oper):Gua :=
 match o.guard with
 | none=>.no
 | some (g,w)=>match (nth all g).bind (·.dst) with|none=>.bad|some d=>.sl (pth d) w
noncomputable def wnT (g:Gua) (t:Trs):Option Bool :=
 match g with
 | .no=>some true
 | .sl p w=>(match gT p t with|.prim (.bool b)=>some (b == w)|.prim (.tuple _)=>some false|_=>none)
 | .bad=>none
theorem Amo {N:Nat} {T:List AV} {t:Trs} (hr:Rl N T t) {all:List Oper} {o:Oper} : wnT (gdT all o) t=Hf all T o:=by
 unfold gdT Hf;cases o.guard with
 | none=>rfl
 | some x =>
  obtain ⟨g,w⟩:=x;simp only;cases (nth all g).bind (·.dst) with
  | none=>rfl
  | some d=>simp only [wnT,hr.get]; rfl
inductive Chq where|yes|nb|x
def ckT [Globs] (o:Oper):Chq:=bif Globs.dr then (bif xOp o then .x else bif isLd o then .nb else .yes) else .yes
noncomputable def smT (P:Program) (N:Nat) (t:Trs) (S':List Ent) (q:TypeId × Operand × Option Tmp × Bool):Bool :=
 q.2.2.2 && match q.2.2.1 with
  | none=>false
  | some d=>Nat.blt d N && match ldA P q.1 (opT t q.2.1) S' with|some v=>eqA v (gT (pth d) t)|none=>false
noncomputable def cxT [Globs] (P:Program) (N:Nat) (all:List Oper) (o:Oper) (t:Trs) (S S':List Ent):Bool :=
 (!lkOp o || gOB S S') && (!anOp o || (Nat.ble S.length S'.length && (!o.dst.isSome || (loadsB all o.dst).all (smT P N t S'))))
noncomputable def okC [Globs] (P:Program) (N:Nat) (all:List Oper) (o:Oper) (k:Chq) (t:Trs) (v:AV) (S S':List Ent):Bool :=
 match k with|.yes=>true|.nb=>!isB v|.x=>cxT P N all o t S S'
theorem Aqb [Globs] {N:Nat} {T:List AV} {t:Trs} (hr:Rl N T t) {all:List Oper} {o:Oper} {v:AV} {S S':List Ent} {tk tk':List Nat} {n n':Nat} (h:okC P N all o (ckT o) t v S S'=true):chkO P all o ⟨T,S,tk,n⟩ v ⟨T,S',tk',n'⟩=true:=by
 unfold ckT at h;unfold chkO;cases h1:(Globs.dr:Bool)
 ·rfl
 ·rw [h1] at h;cases h2:xOp o
  ·rw [h2] at h;cases h3:isLd o
   ·rfl
   ·rw [h3] at h; exact h
  ·rw [h2] at h;simp only [cond_true,okC] at h ⊢;refine @decide_eq_true _ (Classical.propDecidable _) ?_;unfold cxT at h;simp only [Cf,Fz,F3,Cz] at h;obtain ⟨h1,h2⟩:=h;refine ⟨fun h=>?_,fun h=>?_⟩
   ·rcases h1 with h1|h1
    ·rw [h1] at h; cases h
    ·exact Ama h1
   ·rcases h2 with h2|⟨h2,h3⟩
    ·rw [h2] at h; cases h
    ·refine ⟨Nat.le_of_ble_eq_true h2,fun hs q hq=>?_⟩;rcases h3 with h3|h3
     ·rw [h3] at hs; cases hs
     ·have:=h3 q hq;unfold smT at this;rw [Cf] at this;obtain ⟨g1,g⟩:=this;split at g
      ·cases g
      ·rename_i d hd;rw [Cf] at g;obtain ⟨g2,g⟩:=g;split at g
       ·rename_i u hu;refine ⟨g1,d,hd,by rw [hr.len]; simpa using g2,?_⟩;rw [hr.op,hu,Xi g,hr.get]
       ·cases g
noncomputable def stepT [Globs] (P:Program) (call:Bd) (all:List Oper) (N:Nat) (o:Oper) (ih:StT->Option StT) (st:StT):Option StT :=
 match st with
 | ⟨t,S,tk,n⟩=>match wnT (gdT all o) t,dsT N o.dst with
  | some false,some q=>ih ⟨pT q (.prim undef) t,S,tk,n⟩
  | some true,some q=>(match clo P call o with
   | .mk f=>(match f t S tk n with
    | some (v,S',tk',n')=>bif okC P N all o (ckT o) t v S S' then ih ⟨pT q v t,S',tk',n'⟩ else none
    | none=>none)
   | .bad=>none)
  | _,_=>none
noncomputable def opsT [Globs] (P:Program) (call:Bd) (all:List Oper) (N:Nat) (L:List Oper):StT->Option StT :=
 List.rec (motive:=fun _=>StT->Option StT) (fun st=>some st) (fun o _ ih st=>stepT P call all N o ih st) L
def StT.at (s:StT) (T:List AV):St:=⟨T,s.S,s.tk,s.n⟩
theorem Vr [Globs] {call:Bd} {all:List Oper} {N:Nat} : ∀ {L:List Oper} {st st':StT} {T:List AV},Rl N T st.t->opsT P call all N L st=some st'->∃ T',Rl N T' st'.t/\evOs P call all L (st.at T)=some (st'.at T')
 | [],st,st',T,hr,h=>by
  cases h; exact ⟨T,hr,rfl⟩
 | o :: L,⟨t,S,tk,n⟩,st',T,hr,h=>by
  change stepT P call all N o (opsT P call all N L) ⟨t,S,tk,n⟩=some st' at h;simp only [stepT] at h;show ∃ T',_/\evOs P call all (o :: L) ⟨T,S,tk,n⟩=_;simp only [evOs];split at h
  ·rename_i q hw hd;rw [Amo hr] at hw;obtain ⟨T',h1,h2⟩:=Vr (T:=putT T o.dst (.prim undef)) (hr.put hd) h;exact ⟨T',h1,by rw [hw]; exact h2⟩
  ·rename_i q hw hd;rw [Amo hr] at hw;split at h
   ·rename_i f hf;split at h
    ·rename_i v S' tk' n' hv;cases hk:okC P N all o (ckT o) t v S S' with
     | false=>rw [hk] at h; cases h
     | true =>
      rw [hk] at h;obtain ⟨T',h1,h2⟩:=Vr (T:=putT T o.dst v) (hr.put hd) h;refine ⟨T',h1,?_⟩;rw [hw];simp only;rw [App hf hr hv];simp only;rw [if_pos (Aqb hr hk)];exact h2
    ·cases h
   ·cases h
  ·cases h
/- code -/
noncomputable def drQ [Globs] (L:List Oper):Bool:=Bm ⟨[],[],[],0⟩ L
theorem Anv {ops:Array Oper} {i:Nat} {o:Oper} : T6 ⟨[],[],[],0⟩ ops i o=none:=by
 unfold T6;split
 ·split
  ·rfl
  ·rw [List.findSome?_eq_none_iff];intro m _;split
   ·split
    ·split <;> rfl
    ·rfl
   ·rfl
 ·rfl
theorem Apu [Globs] {st:St} {L:List Oper} (h:drQ L=true):Bm st L=true:=by
 unfold drQ Bm at h;unfold Bm;unfold Va at h ⊢;rw [Cz] at h ⊢;intro i hi;have:=h i hi;split at this
 ·cases this
 ·rename_i o ho;simp only [Cf,Cz] at this ⊢;refine ⟨this.1,fun j hj=>?_⟩;have g:=this.2 j hj;split at g
  ·cases g
  ·rename_i p hp;have e:∀ i o p,@Lq (gM (mdOf L)) ⟨[],[],[],0⟩ L.toArray i o p=false:=fun i o p=>by unfold Lq; rw [Anv]
   simp only [e,Fz,Cf] at g ⊢;rcases g with ((g|g)|g)|g
   ·exact .inl (.inl (.inl g))
   ·exact .inl (.inl (.inr g))
   ·refine .inl (.inr ⟨g.1,?_⟩);have g:=g.2;split at g
    ·cases g
    ·rename_i hn;rw [if_neg hn];simp only [Fk] at g;rw [g]; rfl
   ·exact .inr g
noncomputable def okT [Globs] (N:Nat) (L:List Oper) (st:StT):Bool:=drQ L || Bm ⟨tlF st.t N 0,st.S,st.tk,st.n⟩ L
theorem Aqc [Globs] {N:Nat} {L:List Oper} {st:StT} {T:List AV} (hr:Rl N T st.t) (h:okT N L st=true):Bm (st.at T) L=true:=by
 unfold okT at h;rw [Fz] at h;rcases h with h|h
 ·exact Apu h
 ·rwa [hr.list] at h
inductive Reg where|run (L:List Oper)|split (a:List Oper) (o:Oper)|late (a:List Oper) (al o:Oper)|draw (L:List Oper)
def rgT [Globs] (ops:Array Oper) (draw:Bool):Reg :=
 bif draw then (match Ev ops.toList with
  | some (a,o)=>.split a o
  | none=>match Js ops.toList with|some (_,al,o)=>.late (openL ops.toList) al o|none=>.draw ops.toList) else .run ops.toList
noncomputable def dopT [Globs] (P:Program) [Ext P] (call:Bd) (N:Nat) (a:List Oper) (st:StT):Option StT:=bif okT N a st then @opsT (gM (mdOf a)) P (Hs (mdOf a) P call) a N a st else none
noncomputable def thT (x:Option StT) (f:StT->Option StT):Option (Ex × StT):=match x with|some s=>(match f s with|some s=>some (.normal,s)|none=>none)|none=>none
noncomputable def regT [Globs] (P:Program) [Ext P] (call:Bd) (N:Nat) (ops:Array Oper) (draw:Bool) (st:StT):Option (Ex × StT) :=
 match rgT ops draw with
 | .run L=>thT (opsT P call L N L st) some
 | .split a o=>thT (dopT P call N a st) (opsT P call [o] N [o])
 | .late a al o=>thT (dopT P call N a st) (opsT P call [al,o] N [al,o])
 | .draw L=>thT (dopT P call N L st) some
noncomputable def Akr (kp:Bool) (f:StT->Option (Ex × StT)) (k:Nat):StT->Option (Ex × StT) :=
 Nat.rec (motive:=fun _=>StT->Option (Ex × StT)) (fun _=>none) (fun _ ih st=>match f st with|some (.normal,⟨t,S,tk,n⟩)=>ih ⟨t,cutS kp st.S.length S,tk,n⟩|r=>r) k
noncomputable def codT [Globs] (P:Program) [Ext P] (call:Bd) (k N:Nat) (c:Code):StT->Option (Ex × StT) :=
 Code.rec (motive:=fun _=>StT->Option (Ex × StT)) (fun st=>some (.normal,st)) (fun _ ops draw st=>regT P call N ops draw st)
  (fun _ _ f g st=>match f st with|some (.normal,st')=>g st'|r=>r)
  (fun c _ _ f g st=>match opT st.t c with|.prim (.bool b)=>bif b then f st else g st|_=>none)
  (fun id _ f st=>match f st with|some (.exit id',st')=>bif id' == id then some (.normal,st') else some (.exit id',st')|r=>r)
  (fun c f st=>Akr (Nv c) f k st) (fun _ _ _ _ _ _ _=>none) (fun id st=>some (.exit id,st)) (fun _ f st=>f st) (fun _ st=>some (.normal,st)) (fun _ _=>none) (fun st=>some (.ret,st)) (fun _ _=>none) c
theorem Zk [Globs] [Ext P] {call:Bd} (hc:CLe call (cL P)) {N:Nat} {a:List Oper} {st st':StT} {T:List AV} (hr:Rl N T st.t) (h:dopT P call N a st=some st'):Bm (st.at T) a=true/\∃ T',Rl N T' st'.t/\@evOs (gM (mdOf a)) P (Hs (mdOf a) P (cL P)) a a (st.at T)=some (st'.at T'):=by
 unfold dopT at h;cases hk:okT N a st with
 | false=>rw [hk] at h; cases h
 | true =>
  rw [hk] at h;obtain ⟨T',h1,h2⟩:=@Vr P (gM (mdOf a)) _ _ _ _ _ _ _ hr h;exact ⟨Aqc hr hk,T',h1,Bn (G:=gM _) hc.pure h2⟩
theorem Z8 [Globs] [Ext P] {call:Bd} (hc:CLe call (cL P)) {N:Nat} {all L:List Oper} {st st':StT} {T:List AV} (hr:Rl N T st.t) (h:opsT P call all N L st=some st'):∃ T',Rl N T' st'.t/\evOs P (cL P) all L (st.at T)=some (st'.at T'):=by
 obtain ⟨T',h1,h2⟩:=Vr hr h;exact ⟨T',h1,Bn hc h2⟩
theorem Acn {x:Option StT} {f:StT->Option StT} {r:Ex × StT} (h:thT x f=some r):∃ s,x=some s/\f s=some r.2/\r.1=.normal:=by
 unfold thT at h;split at h
 ·split at h
  ·rename_i s _ s' hs;cases h;exact ⟨s,rfl,hs,rfl⟩
  ·cases h
 ·cases h
theorem Hl [Globs] [Ext P] {call:Bd} (hc:CLe call (cL P)) {k N:Nat} : ∀ {c:Code} {st st':StT} {e:Ex} {T:List AV},Rl N T st.t->codT P call k N c st=some (e,st')->∃ T',Rl N T' st'.t/\eL P c (st.at T)=some (e,st'.at T')
 | .skip,st,st',e,T,hr,h=>by
  exact Ya13
 | .region id ops draw,st,st',e,T,hr,h=>by
  change regT P call N ops draw st=_ at h;unfold regT at h;cases draw with
  | false =>
   simp only [rgT,cond_false] at h;obtain ⟨s,h1,h2,h3⟩:=Acn h;cases h2;obtain ⟨T',g1,g2⟩:=Z8 hc hr h1;refine ⟨T',g1,?_⟩;rw [Mp,g2];simp only at h3;subst h3; rfl
  | true =>
   simp only [rgT,cond_true] at h;cases hs:Ev ops.toList with
   | some x =>
    obtain ⟨a,o⟩:=x;rw [hs] at h;obtain ⟨s,h1,h2,h3⟩:=Acn h;obtain ⟨d,T1,g1,g2⟩:=Zk hc hr h1;obtain ⟨T',g3,g4⟩:=Z8 hc g1 h2;refine ⟨T',g3,?_⟩;rw [Agh hs,if_pos d,g2];simp only at h3 ⊢;rw [g4];subst h3; rfl
   | none =>
    rw [hs] at h;simp only at h;cases hl:Js ops.toList with
    | some x =>
     obtain ⟨p,al,o⟩:=x;rw [hl] at h;obtain ⟨s,h1,h2,h3⟩:=Acn h;obtain ⟨d,T1,g1,g2⟩:=Zk hc hr h1;obtain ⟨T',g3,g4⟩:=Z8 hc g1 h2;refine ⟨T',g3,?_⟩;rw [Agf hs hl,if_pos d,g2];simp only at h3 ⊢;rw [g4];subst h3; rfl
    | none =>
     rw [hl] at h;obtain ⟨s,h1,h2,h3⟩:=Acn h;cases h2;obtain ⟨d,T1,g1,g2⟩:=Zk hc hr h1;refine ⟨T1,g1,?_⟩;rw [Age hs hl,if_pos d,g2];simp only at h3;subst h3; rfl
 | .seq a b,st,st',e,T,hr,h=>by
  change (match codT P call k N a st with|some (.normal,st')=>codT P call k N b st'|r=>r)=_ at h;rw [Al8];split at h
  ·rename_i s1 h1;obtain ⟨T1,g1,g2⟩:=Hl hc hr h1;rw [g2];exact Hl hc g1 h
  ·rename_i hne;obtain ⟨T1,g1,g2⟩:=Hl hc hr h;refine ⟨T1,g1,?_⟩;rw [g2];cases e with
   | normal=>exact absurd h (hne st')
   | exit id=>rfl
   | ret=>rfl
 | .cond c a b,st,st',e,T,hr,h=>by
  change (match opT st.t c with|.prim (.bool t)=>bif t then codT P call k N a st else codT P call k N b st|_=>none)=_ at h;rw [Agd];have hT:(st.at T).T=T:=rfl;rw [hT,hr.op];split at h
  ·rename_i t ht;rw [ht];simp only;cases t with
   | true=>rw [if_pos rfl]; exact Hl hc hr h
   | false=>rw [if_neg (by simp)]; exact Hl hc hr h
  ·cases h
 | .block id a,st,st',e,T,hr,h=>by
  change (match codT P call k N a st with|some (.exit id',st')=>bif id' == id then some (Ex.normal,st') else some (Ex.exit id',st')|r=>r)=_ at h;rw [Abj];split at h
  ·rename_i id' s1 h1;obtain ⟨T1,g1,g2⟩:=Hl hc hr h1;rw [g2];simp only;cases hi:id' == id with
   | true =>
    rw [hi] at h; cases h;rw [if_pos eQ]; exact ⟨T1,g1,rfl⟩
   | false =>
    rw [hi] at h; cases h;rw [if_neg eQ]; exact ⟨T1,g1,rfl⟩
  ·rename_i hne;obtain ⟨T1,g1,g2⟩:=Hl hc hr h;refine ⟨T1,g1,?_⟩;rw [g2];cases e with
   | normal=>rfl
   | exit id=>exact absurd h (hne id st')
   | ret=>rfl
 | .loop a,st,st',e,T,hr,h=>by
  change Akr (Nv a) (codT P call k N a) k st=_ at h;have key:∀ m (st:StT) (T:List AV),Rl N T st.t->Akr (Nv a) (codT P call k N a) m st=some (e,st')->∃ T',Rl N T' st'.t/\eL P (.loop a) (st.at T)=some (e,st'.at T'):=by
   intro m;induction m with
   | zero=>intro st T hr h; cases h
   | succ m ih =>
    intro st T hr h;change (match codT P call k N a st with|some (.normal,⟨t,S,tk,n⟩)=>Akr (Nv a) (codT P call k N a) m ⟨t,cutS (Nv a) st.S.length S,tk,n⟩|r=>r)=_ at h;rw [Agg];split at h
    ·rename_i t S tk n h1;obtain ⟨T1,g1,g2⟩:=Hl hc hr h1;rw [g2];exact ih ⟨t,cutS (Nv a) st.S.length S,tk,n⟩ T1 g1 h
    ·rename_i hne;obtain ⟨T1,g1,g2⟩:=Hl hc hr h;refine ⟨T1,g1,?_⟩;rw [g2];cases e with
     | normal=>exact absurd h (hne _ _ _ _)
     | exit id=>rfl
     | ret=>rfl
  exact key k st T hr h
 | .exit id,st,st',e,T,hr,h=>by
  exact Ya13
 | .ret,st,st',e,T,hr,h=>by
  exact Ya13
 | .label _,st,st',e,T,hr,h=>by
  exact Ya13
 | .scope a,st,st',e,T,hr,h=>by
  obtain ⟨T1,g1,g2⟩:=Hl (c:=a) hc hr h;obtain ⟨m,g2⟩:=Bk.1 g2;exact ⟨T1,g1,Bk.2 ⟨m,g2⟩⟩
 | .rangeFunc _ _ _ _,_,_,_,_,_,h=>aP
 | .goto _,_,_,_,_,_,h=>aP
 | .refuse _,_,_,_,_,_,h=>aP
/- calls -/
noncomputable def reT (P:Program) (st:StT):ResultVar->Option AV
 | .tmp t=>some (gT (pth t) st.t)
 | .cell a ty=>ldA P ty (gT (pth a) st.t) st.S
noncomputable def ouT (P:Program) (fn:Func):Option (Ex × StT)->Option (AV × StT)
 | some (.normal,st)=>(match mapO (reT P st) fn.results.toList with|some l=>some (oneOf l,st)|none=>none)
 | some (.ret,st)=>(match mapO (reT P st) fn.results.toList with|some l=>some (oneOf l,st)|none=>none)
 | _=>none
inductive Fun0 where|bad|mk (fn:Func) (c:Code) (mv nl:Bool)
def fuT (P:Program) [Ext P] (f:FuncId):Fun0 :=
 match P.funcs[f]? with
 | some fn => (match fn.body with | some c => bif fn.name == "runtime.NumGoroutine" then .bad else .mk fn c (Ext.mv P f) (G6 c) | none => .bad)
 | none=>.bad
noncomputable def inT [Globs] (P:Program) [Ext P] (call:Bd) (k:Nat) (fn:Func) (c:Code) (args:List AV) (S:List Ent) (tk:List Nat) (n:Nat):Option (AV × StT) :=
 ouT P fn (codT P call k (args.length+(fn.ntmps - args.length)) c ⟨iniT 0 args .l,S,tk,n⟩)
noncomputable def ruT [Globs] (P:Program) [Ext P] (call:Bd) (k:Nat) (fn:Func) (c:Code) (args:List AV):Option AV :=
 match inT P call k fn c args [] [] 0 with
 | some (r,st)=>bif pure3 (w3 (fz3 0 st.S r)) then some (w3 (fz3 0 st.S r)) else none
 | none=>none
def isE:Option AV->Bool
 | some (.frz [] .unk)=>true
 | _=>false
noncomputable def rnT (run:List AV->Option AV):List AV->Option AV
 | .frz [] .unk :: l=>bif isE (run (.frz [] .nl :: l)) && isE (run (.frz [] .nn :: l)) then some (.frz [] .unk) else none
 | .frz (e :: es) .unk :: l=>run (.frz (e :: es) .unk :: l)
 | _=>none
noncomputable def boT [Globs] (P:Program) [Ext P] (tb:FuncId->List AV->Option AV) (k:Nat) (call:Bd):Bd:=fun f args S tk n =>
 match tb f (args.map w2) with
 | some r=>some (r,S,tk,n)
 | none=>bif Ext.on P f then Ext.call P f args S tk n else match fuT P f with
  | .bad=>none
  | .mk fn c mv nl=>bif mv then (match inT P call k fn c args S tk n with|some (r,⟨_,S,tk,n⟩)=>some (r,S,tk,n)|none=>none)
   else bif (args.map w2).all pure2 then (match (bif nl then rnT (ruT P call k fn c) (args.map w2) else ruT P call k fn c (args.map w2)) with|some r=>some (r,S,tk,n)|none=>none)
   else (match inT P call k fn c args S tk n with|some (r,⟨_,S',tk,n⟩)=>some (fz3 S.length S' r,S'.take S.length,tk,n)|none=>none)
noncomputable def evT [Globs] (P:Program) [Ext P] (tb:FuncId->List AV->Option AV) (k d:Nat):Bd:=Nat.rec (motive:=fun _=>Bd) (fun _ _ _ _ _=>none) (fun _ ih=>boT P tb k ih) d
theorem Ag0 [Globs] [Ext P] {call:Bd} (hc:CLe call (cL P)) {k:Nat} {fn:Func} {c:Code} {args:List AV} {S:List Ent} {tk:List Nat} {n:Nat} {r:AV} {st:StT} (h:inT P call k fn c args S tk n=some (r,st)):∃ T,RK P fn c ⟨args++bots (fn.ntmps - args.length),S,tk,n⟩ []=some (r,st.at T):=by
 unfold inT at h;have res:∀ {T s x},Rl (args.length+(fn.ntmps - args.length)) T s.t->(match mapO (reT P s) fn.results.toList with|some l=>some (oneOf l,s)|none=>none)=some x->resA P fn.results.toList (s.at T)=some x.1/\x.2=s:=by
  intro T s x hr h;have e:reT P s=resA1 P (s.at T):=funext fun v=>by cases v <;> simp [reT,resA1,StT.at,hr.get]
  unfold resA;rw [<- e];split at h
  ·rename_i l hl; cases h; rw [hl]; exact ⟨rfl,rfl⟩
  ·cases h
 rw [Ql];unfold RK;cases hx:codT P call k (args.length+(fn.ntmps - args.length)) c ⟨iniT 0 args .l,S,tk,n⟩ with
 | none=>rw [hx] at h; cases h
 | some x =>
  obtain ⟨e,s⟩:=x;rw [hx] at h;obtain ⟨T,g1,g2⟩:=Hl hc (T:=args++Cd (fn.ntmps - args.length) .bot) Rl.ini hx;change eL P c ⟨args++Cd (fn.ntmps - args.length) .bot,S,tk,n⟩=_ at g2;rw [g2];refine ⟨T,?_⟩;cases e with
  | normal =>
   exact Ya23
  | ret =>
   exact Ya23
  | exit id=>cases h
theorem Acj [Globs] [Ext P] {call:Bd} (hc:CLe call (cL P)) {k:Nat} {fn:Func} {c:Code} {args:List AV} {r:AV} (h:ruT P call k fn c args=some r):pure3 r=true/\fin1 (RK P fn c ⟨args++bots (fn.ntmps - args.length),[],[],0⟩ [])=some r:=by
 unfold ruT at h;split at h
 ·rename_i r' st hi;cases hp:pure3 (w3 (fz3 0 st.S r')) with
  | false=>rw [hp] at h; cases h
  | true =>
   rw [hp] at h;simp only [cond_true,A0] at h;subst h;obtain ⟨T,hT⟩:=Ag0 hc hi;exact ⟨hp,by rw [hT]; rfl⟩
 ·cases h
theorem Amb {x:Option AV} (h:isE x=true):x=some (.frz [] .unk):=by
 unfold isE at h;split at h
 ·rfl
 ·cases h
abbrev Tab [Globs] (P:Program) [Ext P] (tb:FuncId->List AV->Option AV):Prop:=∀ f args r,tb f (args.map w2)=some r->∀ S tk n,cL P f args S tk n=some (r,S,tk,n)
theorem Alz [Globs] [Ext P] {tb:FuncId->List AV->Option AV} (ht:Tab P tb) {k:Nat} {call:Bd} (hc:CLe call (cL P)):CLe (boT P tb k call) (cL P):=by
 intro f args S tk n r h;unfold boT at h;split at h
 ·rename_i r' dc;cases h;exact ht _ _ _ dc _ _ _
 cases gg:Ext.on P f with
 | true=>rw [gg] at h; exact Pv gg h
 | false =>
  rw [gg] at h;simp only [cond_false] at h;unfold fuT at h;cases hf:P.funcs[f]? with
  | none=>rw [hf] at h; cases h
  | some fn =>
   rw [hf] at h;simp only at h;cases hb:fn.body with
   | none=>rw [hb] at h; cases h
   | some c =>
    rw [hb] at h;simp only at h;cases hn : fn.name == "runtime.NumGoroutine" with
    | true=>rw [hn] at h; cases h
    | false =>
     rw [hn] at h;simp only [cond_false] at h;cases hm:Ext.mv P f with
     | true =>
      rw [hm] at h;simp only [cond_true] at h;split at h
      ·rename_i r' t S1 tk1 n1 hi;cases h;obtain ⟨T,hT⟩:=Ag0 hc hi;exact Afp hf (by rw [gg,hm]; rfl) hb hn rfl (by rw [hT]; rfl)
      ·cases h
     | false =>
      rw [hm] at h;simp only [cond_false] at h;have hx:(Ext.on P f || Ext.mv P f)=false:=by rw [gg,hm]; rfl
      cases hp:(args.map w2).all pure2 with
      | true =>
       rw [hp] at h;simp only [cond_true] at h;split at h
       ·rename_i r' dc;cases h;cases sa:G6 c with
        | false =>
         rw [sa] at dc;obtain ⟨g1,g2⟩:=Acj hc dc;rw [Ib] at g2;exact W4 hf hx hb sa hn rfl rfl hp _ _ _ g1 g2
        | true =>
         rw [sa] at dc;simp only [cond_true] at dc;unfold rnT at dc;split at dc
         ·rename_i l hl;cases hq:isE (ruT P call k fn c (.frz [] .nl :: l)) && isE (ruT P call k fn c (.frz [] .nn :: l)) with
          | false=>rw [hq] at dc; cases dc
          | true =>
           rw [hq] at dc;simp only [cond_true,A0] at dc;subst dc;rw [Cf] at hq;have dk:l.all pure2=true:=by rw [hl] at hp; simp only [Oc,Cf] at hp; exact hp.2
           exact Pa hf hx hb sa hn rfl hl dk _ _ _ (Acj hc (Amb hq.1)).2 (Acj hc (Amb hq.2)).2
         ·rename_i e es l hl;obtain ⟨g1,g2⟩:=Acj hc dc;rw [hl] at hp;exact Mk hf hx hb sa hn rfl hl hp _ _ _ g1 g2
         ·cases dc
       ·cases h
      | false =>
       rw [hp] at h;simp only [cond_false] at h;split at h
       ·rename_i r' t S1 tk1 n1 hi;cases h;obtain ⟨T,hT⟩:=Ag0 hc hi;exact Ly hf hx hb hn rfl hp (by rw [hT]; rfl)
       ·cases h
theorem Al9 [Globs] [Ext P] {tb:FuncId->List AV->Option AV} (ht:Tab P tb) {k:Nat} : ∀ {d:Nat},CLe (evT P tb k d) (cL P)
 | 0=>fun _ _ _ _ _ _ h=>aP
 | d+1=>Alz ht (Al9 ht (d:=d))
noncomputable def ansT [Globs] (P:Program) [Ext P] (tb:FuncId->List AV->Option AV) (f:FuncId) (args:List AV) (r:AV):Bool :=
 match fuT P f with
 | .mk fn c false false=>!Ext.on P f && args.all pure2 && (match ruT P (evT P tb 2000 100) 2000 fn c args with|some r'=>eqA r' r|none=>false)
 | _=>false
theorem cL_T [Globs] [Ext P] {tb:FuncId->List AV->Option AV} (ht:Tab P tb) {f:FuncId} {args args':List AV} {r:AV} (ha:args.map w2=args') (h:ansT P tb f args' r=true) (S:List Ent) (tk:List Nat) (n:Nat):cL P f args S tk n=some (r,S,tk,n):=by
 have pz:Tab P (fun (_:FuncId) (_:List AV)=>(none:Option AV)):=fun _ _ _ h=>aP
 subst ha;unfold ansT at h;split at h
 ·rename_i fn c hfu;simp only [Cf,F3] at h;obtain ⟨⟨gg,hp⟩,h⟩:=h;split at h
  ·rename_i r' dc;have:=Xi h;subst this;refine Alz pz (Al9 ht) f args S tk n _ (k:=2000) (call:=evT P tb 2000 100) ?_;simp only [boT,gg,hfu,cond_false,hp,cond_true,dc]
  ·cases h
 ·cases h
def lkT:List (List AV × AV)->List AV->Option AV
 | [],_=>none
 | (a,r) :: l,args=>bif eqM a args then some r else lkT l args
def tbT:List (Nat × List (List AV × AV))->FuncId->List AV->Option AV
 | [],_,_=>none
 | (g,l) :: t,f,args=>match (bif Nat.beq g f then lkT l args else none) with|some r=>some r|none=>tbT t f args
theorem Amd:∀ {l:List (List AV × AV)} {args:List AV} {r:AV},lkT l args=some r->(args,r) ∈ l
 | [],_,_,h=>aP
 | (a,r') :: l,args,r,h=>by
  simp only [lkT] at h;cases he:eqM a args with
  | true=>rw [he] at h; cases h; rw [Ls he]; exact Cv ..
  | false=>rw [he] at h; exact Cq _ (Amd h)
theorem Aq7 {g:Nat} {l:List (List AV × AV)} {t:List (Nat × List (List AV × AV))} {f:FuncId} {args:List AV} {r:AV} (h:tbT ((g,l) :: t) f args=some r):(g=f/\(args,r) ∈ l)\/tbT t f args=some r:=by
 simp only [tbT] at h;cases he:Nat.beq g f with
 | false=>rw [he] at h; exact .inr h
 | true =>
  rw [he] at h;simp only [cond_true] at h;split at h
  ·rename_i r' dc; cases h; exact .inl ⟨Nat.eq_of_beq_eq_true he,Amd dc⟩
  ·exact .inr h
theorem Pk [Globs] [Ext P]:Tab P (tbT []):=fun _ _ _ h=>aP
theorem R6 [Globs] [Ext P] {tb:FuncId->List AV->Option AV} (ht:Tab P tb) {t t':List (Nat × List (List AV × AV))} (xg:Tab P (tbT t')) (h:(t.all fun e=>e.2.all fun a=>ansT P tb e.1 a.1 a.2)=true):Tab P (tbT (t++t')):=by
 induction t with
 | nil=>exact xg
 | cons e t ih =>
  obtain ⟨g,l⟩:=e;rw [Oc,Cf] at h;intro f args r hr S tk n;rcases Aq7 hr with ⟨rfl,hm⟩|hr
  ·have:=h.1;rw [Cz] at this;exact cL_T ht rfl (this _ hm) S tk n
  ·exact ih h.2 f args r hr S tk n
end
end Go.Proofs.YthelkgdmgihhiaaGreat
