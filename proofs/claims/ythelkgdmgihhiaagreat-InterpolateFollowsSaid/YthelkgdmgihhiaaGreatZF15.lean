/- Part 15. -/
import Derived.Sort.OwnSorted
import Derived.Sort.Grow
import Derived.Lib.OwnBridge
import Derived.Laws.AppendOwn
import Derived.Laws.AppendOwnNone
import Derived.Lib.Hide
import Derived.Test.YthelkgdmgihhiaaGreatZF14
open Bool renaming and_eq_true->Ch,not_eq_true'->Ig,or_eq_true->Io,not_eq_true->jB
open Classical renaming byContradiction->jC
open Go.IntKind renaming i64->B8
open Go.Lib renaming hid->Cs
open Go.Proofs.YthelkgdmgihhiaaGreat.AV renaming bool->Bo,int->Ca,str->Cb
open Go.RowKit.Below renaming refl->F1
open Go.Value renaming oneCell'->jS
open Go.World renaming cell?->Mx
open Int renaming tdiv_eq_ediv_of_nonneg->Cz,mul_comm->Fy,tmod_eq_emod_of_nonneg->Gm,mul_assoc->H9,natAbs_mul->Iq,mul_add->I1,pow_succ->Nw,natCast_nonneg->Od,mul_nonneg->Ox,neg_mul->Rp,mul_zero->Si,add_zero->Sv,natCast_mul->iI,add_assoc->iK,mul_sub->iS
open List renaming replicate->Cg,map_cons->Cm,map_nil->Cp,nil_append->Ct,mem_append->Cu,length_eq_zero_iff->C5,map_append->C9,getElem?_map->Fe,length_map->Fg,append_nil->Fj,drop_eq_nil_of_le->Fm,drop_length->Fp,drop_zero->Fz,mem_map->F6,length_pos_iff->Ic,getElem?_take_of_lt->Ij,mem_replicate->It,take_append_drop->Ix,getElem?_take->Oc,map_congr_left->Sy,getElem?_drop->iD,mem_of_mem_take->iV,length_set->jJ,map_map->kY
open Nat renaming le_refl->Ce,zero_le->Ci,mul_one->Cw,le_trans->Fh,zero_add->Fk,mul_le_mul_right->F8,lt_or_ge->Ia,add_zero->Ie,div_lt_iff_lt_mul->Ih,mul_comm->I5,gcd_zero_right->I6,mod_lt->I7,div_add_mod->Ot,div_le_self->Ou,mul_le_mul_left->Oy,le_div_iff_mul_le->O1,mod_eq_of_lt->O3,add_assoc->O4,pow_succ->O5,mul_le_mul->Pz,add_mul->V9,eq_zero_or_pos->iF,gcd_comm->iG,div_eq_of_lt->jA,pow_pos->jR,le_of_lt->jW
open Ne renaming symm->I8
open Option renaming map_eq_some_iff->Cd,bind_some->Ov
open Option.some renaming injEq->Bg
open Rat renaming intCast_mul->Fb,intCast_neg->Og,mul_nonneg->iT,le_refl->iU,intCast_add->jK,intCast_inj->kP
namespace Go.Proofs.YthelkgdmgihhiaaGreat
open Go Tryz Go.RowKit Go.Sort
set_option maxHeartbeats 2000000
set_option maxRecDepth 100000
theorem Awm:(prog.info? 9).map (fun i=>(i.zero,i.size,i.bytes))=some (some (.string ⟨#[]⟩),1,16):=aK
theorem Aja (w:World):Calls prog 78 #[.slice none 0 0,.slice none 0 0] w fun e w'=>∃ a,e=.returned (.slice a 0 0)/\Below w.heap.size w w':=by
 go_enter func78,ntmps78;go_wp2_with (go_at_call 110; refine (Tryz.slices_Sort_string_none _ _ _).mono ?_; rintro e w' ⟨rfl,rfl⟩);go_wp2_with (go_at_call 111; refine (Tryz.slices_Compact_string_empty _ _ _).mono ?_; rintro e w' ⟨rfl,rfl⟩);go_ret;exact ⟨_,rfl,(F1 _ _).alloc (Ce _) _⟩
theorem Aok {w w1:World} {g cap n nn q:Nat} {os:Array Obj} {ss:List (List UInt8)} (hown:w1.ownsRow w.heap.size 9 1 (.slice (some ⟨g,0,none⟩) n cap) n (ss.map encStr)) (hbel:Below w.heap.size w w1) (hbg:w.heap.size<=g) (hlen:ss.length=n) :
  ∃ g' cap',(Ending.returned (.slice (some ⟨g,0,none⟩) (Lib.compact (ss.mergeSort fun x y=>decide (x<=y))).length cap))=.returned (.slice (some ⟨g',0,none⟩) (Lib.compact (ss.mergeSort fun x y=>decide (x<=y))).length cap') /\
   (putRow encStr (Sort.ahead (grow (putRow encStr (Sort.ahead w1 nn) g 0 (ss.mergeSort fun x y=>decide (x<=y)).toArray) os) q) g 0 (Lib.compact (ss.mergeSort fun x y=>decide (x<=y))++Cg (n - (Lib.compact (ss.mergeSort fun x y=>decide (x<=y))).length) []).toArray).ownsRow w.heap.size 9 1 (.slice (some ⟨g',0,none⟩) (Lib.compact (ss.mergeSort fun x y=>decide (x<=y))).length cap') (Lib.compact (ss.mergeSort fun x y=>decide (x<=y))).length ((Lib.compact (ss.mergeSort fun x y=>decide (x<=y))).map encStr) /\
   Below w.heap.size w (putRow encStr (Sort.ahead (grow (putRow encStr (Sort.ahead w1 nn) g 0 (ss.mergeSort fun x y=>decide (x<=y)).toArray) os) q) g 0 (Lib.compact (ss.mergeSort fun x y=>decide (x<=y))++Cg (n - (Lib.compact (ss.mergeSort fun x y=>decide (x<=y))).length) []).toArray):=by
 have hl2:(ss.mergeSort fun x y=>decide (x<=y)).length=ss.length:=List.length_mergeSort ss;have hle:=Lib.compact_length_le (ss.mergeSort fun x y=>decide (x<=y));subst hlen;rcases hown.2 with ⟨h0,_⟩|⟨g',cap',cur,hv,hbase,hb,h1,h2,h3,h4⟩
 ·cases h0
 cases hv;have hs:=ownsRow_sorted (n:=nn) (os:=os) (ts:=ss.mergeSort fun x y=>decide (x<=y)) hl2 hbase hb h1 h2 h3;have hc:=Lib.ownsRow_putRow (q:=q) (k:=(Lib.compact (ss.mergeSort fun x y=>decide (x<=y))).length) (ys:=Lib.compact (ss.mergeSort fun x y=>decide (x<=y))++Cg (ss.length - (Lib.compact (ss.mergeSort fun x y=>decide (x<=y))).length) []) hs aC aA;rw [List.take_left] at hc;exact ⟨g,cap,rfl,hc,Lib.below_putRow (hbel.grown (grownBy_sorted _) hbel.size (fun j hj=>by cases hj; exact hbase)) hbg⟩
theorem Aoj {w:World} {b o len cap:Nat} {ss:List (List UInt8)} (hl:ss.length=len) (hc:∀ j u,(ss.map encStr)[j]?=some u->w.cell? ⟨b,o+j,none⟩=some u) (hbig:len<=1000000) {ops:Array Oper} {rest:List Oper} {op:Oper} {a:Act} {Q:Exit->Act->World->Prop}
  (hgd:op.guard=none) (ho:op.op=.call { callee:=.builtin .append,args:=#[.tmp 6,.tmp 7],argTypes:=#[37,37] }) (h6:a.eval (.tmp 6)=.slice (some ⟨w.heap.size,0,none⟩) 0 0) (h7:a.eval (.tmp 7)=.slice (some ⟨b,o,none⟩) len cap)
  (h:∀ v' w',w'.ownsRow w.heap.size 9 1 v' len (ss.map encStr)->Below w.heap.size w w'->v'≠.slice none 0 0->wpList prog ops Q rest (a.put op.dst v') w'):wpList prog ops Q (op :: rest) a (w.alloc (.cells #[] 9)):=by
 obtain ⟨i0,hi,hz0,hz1,hz2⟩:=info_parts Awm;have hbel0:Below w.heap.size w (w.alloc (.cells #[] 9)):=(F1 _ _).alloc (Ce _) _;refine wpList_append_own _ hgd _ _ 37 ho w.heap.size 9 i0 (.string ⟨#[]⟩) 1 16 underlying37 hi hz0 hz1 hz2 rfl aJ (.slice (some ⟨w.heap.size,0,none⟩) 0 0) 0 [] h6 (World.ownsRow_made w #[] 0 (Ce _) aJ rfl) ⟨b,o,none⟩ len cap (ss.map encStr) h7 (by rw [Fg,hl,Cw]) (fun j u hj=>?_) (fun u hu=>?_) fF aA hbel0.size (fun v' w' hown hg hn=>?_)
 ·have:=hc j u hj;rw [D7,hbel0.cell (Ha this)]; exact this
 ·obtain ⟨x,-,rfl⟩:=F6.1 hu;rfl
 ·rw [Fk,Ct] at hown;refine h v' w' hown (hbel0.grown hg hbel0.size fun j hj=>?_) fun e=>?_
  ·simp only [Value.ownBlock,Bg] at hj; omega
  ·have:=(hn.1 e).1;simp at this
theorem Ajb (w:World) (b o len cap:Nat) (ss:List (List UInt8)) (hl:ss.length=len) (hpos:0<len) (hc:∀ j u,(ss.map encStr)[j]?=some u->w.cell? ⟨b,o+j,none⟩=some u) (hbig:len<=1000000):Calls prog 78 #[.slice (some ⟨b,o,none⟩) len cap,.slice none 0 0] w fun e w' =>
  ∃ g cap,e=.returned (.slice (some ⟨g,0,none⟩) (Lib.compact (ss.mergeSort fun x y=>decide (x<=y))).length cap) /\
  w'.ownsRow w.heap.size 9 1 (.slice (some ⟨g,0,none⟩) (Lib.compact (ss.mergeSort fun x y=>decide (x<=y))).length cap) (Lib.compact (ss.mergeSort fun x y=>decide (x<=y))).length ((Lib.compact (ss.mergeSort fun x y=>decide (x<=y))).map encStr)/\Below w.heap.size w w':=by
 have HC:=Cs hc;have HL:=Cs hl;clear hc hl;go_enter func78,ntmps78;go_wp2_with (at_builtin; refine Aoj HL.out HC.out hbig rfl rfl rfl rfl ?_; intro v1 w1 hown hbel hnn; obtain ⟨g,cap1,rfl,hbg,hgl,hncap,hcm,-,hH⟩:=Lib.holds_of_ownsRow hown hnn; have HO:=Cs hown; have HB:=Cs hbel; have HG:=Cs hbg; have HS:=Cs (show Calls prog 110 #[.slice (some ⟨g,0,none⟩) len cap1] w1 fun e w'=>e=.returned (.tuple #[])/\∃ n os,w'=grow (putRow encStr (Sort.ahead w1 n) g 0 (ss.mergeSort fun x y=>decide (x<=y)).toArray) os from by have:=Tryz.slices_Sort_string g 0 cap1 ss w1 hH hgl (by rw [HL.out]; omega); rw [HL.out] at this; exact this); have HH:=Cs hH; have HGL:=Cs hgl; clear hown hbel hnn hbg hgl hH);have HC2:=Cs (show ∀ nn os,Calls prog 111 #[.slice (some ⟨g,0,none⟩) len cap1] (grow (putRow encStr (Sort.ahead w1 nn) g 0 (ss.mergeSort fun x y=>decide (x<=y)).toArray) os) fun e w'=>e=.returned (.slice (some ⟨g,0,none⟩) (Lib.compact (ss.mergeSort fun x y=>decide (x<=y))).length cap1)/\∃ q,w'=putRow encStr (Sort.ahead (grow (putRow encStr (Sort.ahead w1 nn) g 0 (ss.mergeSort fun x y=>decide (x<=y)).toArray) os) q) g 0 (Lib.compact (ss.mergeSort fun x y=>decide (x<=y))++Cg (len - (Lib.compact (ss.mergeSort fun x y=>decide (x<=y))).length) []).toArray from by
  intro nn os;have hl2:(ss.mergeSort fun x y=>decide (x<=y)).length=len:=by rw [List.length_mergeSort]; exact HL.out
  have hH2:Holds encStr (grow (putRow encStr (Sort.ahead w1 nn) g 0 (ss.mergeSort fun x y=>decide (x<=y)).toArray) os) g 0 (ss.mergeSort fun x y=>decide (x<=y)).toArray :=
   holds_grow encStr _ os g 0 _ (by simpa [putRow,mapBlock,Sort.ahead] using HGL.out) (holds_putRow encStr _ g 0 _ _ (holds_ahead encStr w1 nn g 0 _ HH.out) (by simp))
  have:=Tryz.slices_Compact_string g 0 cap1 (ss.mergeSort fun x y=>decide (x<=y)) _ hH2 aA aA;rw [hl2] at this;exact this)
 go_wp2_with (go_at_call 110; refine HS.out.mono ?_; rintro e w2 ⟨rfl,nn,os,rfl⟩);go_wp2_with (go_at_call 111; refine (HC2.out nn os).mono ?_; rintro e w3 ⟨rfl,q,rfl⟩);go_ret;exact Aok HO.out HB.out HG.out HL.out
theorem Yr {z:List (List UInt8)} (hz:z.Pairwise (·<=·)):(Lib.compact z).Pairwise (· < ·)/\∀ x,x ∈ Lib.compact z↔x ∈ z:=by
 have mono:∀ i j,i<=j->j<z.length->z.toArray[i]!<=z.toArray[j]!:=by
  intro i j hij hj;rw [getElem!_pos z.toArray i aC,getElem!_pos z.toArray j bN];rcases Ia i j with h|h
  ·exact List.pairwise_iff_getElem.1 hz i j aA hj h
  ·have:i=j:=aA
   subst this;exact List.le_refl _
 have key:∀ m,m<=z.length->(Lib.compactUpTo z.toArray m).Pairwise (· < ·)/\∀ x,x ∈ Lib.compactUpTo z.toArray m↔∃ j,j<m/\z.toArray[j]! = x:=by
  intro m;induction m with
  | zero=>intro _; exact ⟨by simp [Lib.compactUpTo],fun x=>by simp [Lib.compactUpTo]⟩
  | succ m ih =>
   intro hm;obtain ⟨h1,h2⟩:=ih aA;rw [Lib.compactUpTo_succ];cases hk:Lib.keeps z.toArray m with
   | true =>
    rw [if_pos rfl];refine ⟨List.pairwise_append.2 ⟨h1,by simp,fun x hx y hy=>?_⟩,fun x=>?_⟩
    ·obtain ⟨j,hj,rfl⟩:=(h2 x).1 hx;have hy:y=z.toArray[m]!:=by simpa using hy
     subst hy;simp only [Lib.keeps,decide_eq_true_eq] at hk;have hne:=hk.resolve_left aA;refine List.not_le.1 fun hle=>hne ?_;exact List.le_antisymm (List.le_trans hle (mono j (m - 1) aA aA)) (mono (m - 1) m aA aA)
    ·rw [Cu,h2];constructor
     ·rintro (⟨j,hj,e⟩|h)
      ·exact ⟨j,aA,e⟩
      ·exact ⟨m,aA,(by simpa using h:x=_).symm⟩
     ·rintro ⟨j,hj,e⟩;by_cases hjm:j=m
      ·subst hjm; exact .inr (by simp [e])
      ·exact .inl ⟨j,aA,e⟩
   | false =>
    rw [if_neg (by simp),Fj];refine ⟨h1,fun x=>?_⟩;rw [h2];simp only [Lib.keeps,decide_eq_false_iff_not,not_or,Decidable.not_not] at hk;constructor
    ·rintro ⟨j,hj,e⟩; exact ⟨j,aA,e⟩
    ·rintro ⟨j,hj,e⟩;by_cases hjm:j=m
     ·subst hjm; exact ⟨j - 1,aA,by rw [<- hk.2]; exact e⟩
     ·exact ⟨j,aA,e⟩
 obtain ⟨h1,h2⟩:=key z.length (Ce _);refine ⟨h1,fun x=>(h2 x).trans ?_⟩;constructor
 ·rintro ⟨j,hj,rfl⟩;rw [getElem!_pos z.toArray j bN];simp
 ·intro hx;obtain ⟨j,hj,rfl⟩:=List.getElem_of_mem hx;exact ⟨j,hj,by rw [getElem!_pos z.toArray j bN]; simp⟩
theorem Adq (l:List ByteArray):Lib.compact ((l.map nm).mergeSort fun x y=>decide (x<=y))=(uniS l).map nm:=by
 have hz:((l.map nm).mergeSort fun x y=>decide (x<=y)).Pairwise (·<=·):=by
  have:=List.pairwise_mergeSort (le:=fun x y:List UInt8=>decide (x<=y)) (fun a b c h1 h2=>by simp only [decide_eq_true_eq] at *; exact List.le_trans h1 h2) (fun a b=>by simp only [Io,decide_eq_true_eq]; exact List.le_total a b) (l.map nm);exact this.imp fun h=>aO
 obtain ⟨h1,h2⟩:=Yr hz;obtain ⟨u1,u2,-⟩:=Jz l;generalize Lib.compact ((l.map nm).mergeSort fun x y=>decide (x<=y))=T at h1 h2;have e:T=(T.map fun x=>(⟨x.toArray⟩:ByteArray)).map nm:=by
  rw [kY];conv=>lhs; rw [<- List.map_id T]
  exact Sy fun x _=>by simp [nm]
 rw [e];congr 1;refine Al9 ?_ u1 fun x=>?_
 ·unfold Inc;rw [List.pairwise_map];exact h1.imp fun h=>by simpa [nm] using h
 ·rw [u2];have:x ∈ (T.map fun x=>(⟨x.toArray⟩:ByteArray))↔nm x ∈ T:=by
   rw [F6];constructor
   ·rintro ⟨y,hy,rfl⟩; simpa [nm] using hy
   ·intro h; exact ⟨nm x,h,by simp [nm]⟩
  rw [this,h2,List.mem_mergeSort,F6];constructor
  ·rintro ⟨y,hy,h⟩; rw [Am3 h] at hy; exact hy
  ·intro h; exact ⟨x,h,rfl⟩
theorem An8 {w:World} {A:Nat->Nat->Prop} {b sz:Nat} : ∀ {l:List ByteArray} {o j:Nat} {x:ByteArray},B6 w A b sz o (l.map strC)->nth l j=some x->sz=1/\w.cell? ⟨b,o+j,none⟩=some (.string x)
 | y :: l,o,0,x,h,hx=>by
  simp only [nth,Bg] at hx;subst hx;simp only [Cm,B6,strC] at h;obtain ⟨h0,⟨vs,h1,h2⟩,-⟩:=h;match vs,h2 with
  | [v],h2 =>
  simp only [PRs,PR,and_true] at h2;simp only [Lie] at h1;have h0:sz=1:=by simpa using h0.symm
  exact ⟨h0,by rw [Ie,h1.1,h2.1]⟩
 | y :: l,o,j+1,x,h,hx=>by
  simp only [nth] at hx;simp only [Cm,B6] at h;obtain ⟨h0,-,h3⟩:=h;have h0:sz=1:=by simpa [strC] using h0.symm
  subst h0;obtain ⟨-,h4⟩:=An8 h3 hx;exact ⟨rfl,by rw [<- h4]; congr 2; omega⟩
theorem W5 {w:World} {A:Nat->Nat->Prop} {b:Nat} (hA:∀ o,¬ A b o):∀ (l:List ByteArray) (o:Nat),(∀ i x,nth l i=some x->w.cell? ⟨b,o+i,none⟩=some (.string x))->B6 w A b 1 o (l.map strC)
 | [],_,_=>by simp only [Cp,B6]
 | x :: l,o,h=>by
  simp only [Cm,B6];have h1:=h 0 x rfl;refine ⟨rfl,⟨[.string x],⟨h1,hA _,trivial⟩,?_⟩,W5 hA l (o+1) fun i d hd=>?_⟩
  ·simp [PRs,PR,strC,jS]
  ·have:=h (i+1) d hd;rwa [show o+(i+1)=o+1+i from by omega] at this
theorem Aj9 {C:Cx} {vs:Array Value} (hs:SR C) (l:List ByteArray) (c:Cap) (hlen:l.length<=1000000) (hc:l=[]->c=.nilc) (hv:VRs C [.frz (l.map strC) c,.frz [] .nilc] vs.toList) :
  Calls prog 78 vs C.w fun e w'=>∃ v C',e=.returned v/\C'.w=w'/\Le C C'/\SR C'/\C'.S=C.S/\C'.tk=C.tk/\C'.n=C.n/\VR C' (Aq (uniS l)) v:=by
 obtain ⟨vl⟩:=vs;match vl,hv with
 | [x,y],hv =>
 simp only [VRs,VR,and_true] at hv;obtain ⟨⟨a,len,cap,rfl,h1,h2,h3,h4⟩,⟨a2,len2,cap2,rfl,g1,g2,g3,-⟩⟩:=hv;have g1:len2=0:=by simpa using g1.symm
 subst g1;obtain ⟨rfl,g3⟩:=(g3:a2=none/\cap2=0);subst g3;by_cases hl:l=[]
 ·subst hl;obtain rfl:=hc rfl;have h1:len=0:=by simpa using h1.symm
  subst h1;obtain ⟨rfl,h3⟩:=(h3:a=none/\cap=0);subst h3;refine (Aja C.w).mono ?_;rintro e w' ⟨a,rfl,hb⟩;refine ⟨_,C.at w',rfl,rfl,Le.of_below hb,SR.of_below hs hb,rfl,rfl,rfl,?_⟩;simp only [Aq,uniS,List.foldl_nil,Cp,VR];exact ⟨a,0,0,rfl,rfl,Ce _,trivial,.inl trivial⟩
 ·have hpos:0<l.length:=Ic.2 hl;obtain ⟨b,o,sz,rfl,hr⟩:=h4.resolve_left cH;have h1:l.length=len:=aY
  subst h1;have hcell:∀ j u,((l.map nm).map encStr)[j]?=some u->C.w.cell? ⟨b,o+j,none⟩=some u:=by
   intro j u hj;rw [kY,Fe,Cd] at hj;obtain ⟨x,hx,rfl⟩:=hj;rw [(An8 hr (by rw [Af]; exact hx)).2];simp [nm]
  refine (Ajb C.w b o l.length cap (l.map nm) (by simp) hpos hcell hlen).mono ?_;rintro e w' ⟨g,cap',rfl,hown,hb⟩;rw [Adq] at hown ⊢;rcases hown.2 with ⟨h0,-⟩|⟨g',cap2,cur,hv,hbase,hg,k1,k2,k3,k4⟩
  ·cases h0
  cases hv;refine ⟨_,C.at w',rfl,rfl,Le.of_below hb,SR.of_below hs hb,rfl,rfl,rfl,?_⟩;simp only [Aq,VR];refine ⟨_,_,_,rfl,by simp,by simpa using k1,trivial,.inr ⟨g,0,1,rfl,W5 (fun o ha=>?_) _ _ fun i x hx=>?_⟩⟩
  ·rcases ha with ha|ha
   ·have:=hs.avlt g o ha; omega
   ·have:=Amz hs (show C.Mut g o from ha); omega
  ·have hx':=hx;rw [Af] at hx';have hi:i<(uniS l).length:=Bl hx;show w'.cell? _=_;have hq:cur.toList[i]?=some (.string x):=by
    have:(cur.toList.take (((uniS l).map nm).length*1))[i]?=some (.string x):=by
     rw [k4,kY,Fe,hx'];simp [nm]
    rw [Oc] at this;split at this
    ·exact this
    ·simp at this
   simp only [Mx,hg,Fk];simpa using hq
end Go.Proofs.YthelkgdmgihhiaaGreat
namespace Go.Proofs.YthelkgdmgihhiaaGreat.Simp
def sum:Nat->(Nat->Rat)->Rat
 | 0,_=>0
 | n+1,f=>sum n f+f n
theorem sum_congr {f g:Nat->Rat} : ∀ {n:Nat},(∀ j,j<n->f j=g j)->sum n f=sum n g
 | 0,_=>rfl
 | n+1,h=>by rw [sum,sum,sum_congr fun j hj=>h j aA,h n aA]
theorem sum_zero {f:Nat->Rat} {n:Nat} (h:∀ j,j<n->f j=0):sum n f=0:=by
 induction n with
 | zero=>rfl
 | succ n ih=>rw [sum,ih fun j hj=>h j aA,h n aA]; grind
theorem sum_add (f g:Nat->Rat):∀ n,sum n (fun j=>f j+g j)=sum n f+sum n g
 | 0=>eJ
 | n+1=>by simp only [sum,sum_add f g n]; grind
theorem Hy (a:Rat) (f:Nat->Rat):∀ n,sum n (fun j=>a*f j)=a*sum n f
 | 0=>eJ
 | n+1=>by simp only [sum,Hy a f n]; grind
theorem Aet (f g:Nat->Rat):∀ n,sum n (fun j=>f j - g j)=sum n f - sum n g
 | 0=>eJ
 | n+1=>by simp only [sum,Aet f g n]; grind
theorem Q4 (f:Nat->Nat->Rat) (m:Nat):∀ n,sum n (fun j=>sum m fun k=>f j k)=sum m fun k=>sum n fun j=>f j k
 | 0=>by simp only [sum]; exact (sum_zero fun _ _=>rfl).symm
 | n+1=>by simp only [sum,Q4 f m n,sum_add]
theorem sum_one {f:Nat->Rat} {s:Nat} : ∀ {n:Nat},s<n->sum n (fun j=>if j=s then f j else 0)=f s
 | 0,h=>aA
 | n+1,h=>by
  rw [sum];by_cases e:n=s
  ·subst e;rw [if_pos rfl,sum_zero fun j hj=>if_neg aA]; grind
  ·rw [if_neg e,sum_one aA]; grind
theorem sum_nonneg {f:Nat->Rat} : ∀ {n:Nat},(∀ j,j<n->0<=f j)->0<=sum n f
 | 0,_=>eJ
 | n+1,h=>by
  have h1:=sum_nonneg (f:=f) (n:=n) fun j hj=>h j aA;have h2:=h n aA;rw [sum]; grind
theorem Tn {f:Nat->Rat} : ∀ {n:Nat},0<sum n f->∃ j,j<n/\0<f j
 | 0,h=>by simp only [sum] at h; grind
 | n+1,h=>by
  rw [sum] at h;by_cases h1:0<f n
  ·exact ⟨n,aA,h1⟩
  ·have h2:0<sum n f:=aL
   obtain ⟨j,hj,h3⟩:=Tn h2;exact ⟨j,aA,h3⟩
structure Tab where
 T:Nat->Nat->Rat
 c:Nat->Rat
 B:Nat->Nat
def dot (N:Nat) (a x:Nat->Rat):Rat:=sum (N+1) fun j=>a j*x j
def Ker (m N:Nat) (t:Tab) (x:Nat->Rat):Prop:=∀ i,i<m->dot N (t.T i) x=0
def pivT (t:Tab) (r s:Nat) (i j:Nat):Rat:=if i=r then t.T r j / t.T r s else t.T i j - t.T i s*(t.T r j / t.T r s)
def piv (t:Tab) (r s:Nat):Tab:=⟨pivT t r s,fun j=>t.c j - t.c s*(t.T r j / t.T r s),fun i=>if i=r then s else t.B i⟩
theorem Afx (N:Nat) (a:Rat) (f x:Nat->Rat):dot N (fun j=>a*f j) x=a*dot N f x:=by
 unfold dot;rw [<- Hy];exact Ya4g
theorem Atn (N:Nat) (f g x:Nat->Rat):dot N (fun j=>f j - g j) x=dot N f x - dot N g x:=by
 unfold dot;rw [<- Aet];exact Ya4g
theorem Alo (N:Nat) (a:Rat) (f x:Nat->Rat):dot N (fun j=>f j / a) x=dot N f x / a:=by
 have h:=Afx N a⁻¹ f x;have e1:(fun j=>a⁻¹*f j)=fun j=>f j / a:=by funext j; grind
 rw [e1] at h;rw [h]; grind
theorem Afw (N:Nat) (a:Rat) (p:Rat) (f g x:Nat->Rat):dot N (fun j=>f j - a*(g j / p)) x=dot N f x - a*(dot N g x / p):=by
 rw [Atn,Afx N a (fun j=>g j / p) x,Alo]
theorem Aef (t:Tab) (r s:Nat) (N:Nat) (x:Nat->Rat) (i:Nat):dot N ((piv t r s).T i) x=if i=r then dot N (t.T r) x / t.T r s else dot N (t.T i) x - t.T i s*(dot N (t.T r) x / t.T r s):=by
 by_cases h:i=r
 ·subst h;rw [if_pos rfl];have e:(piv t i s).T i=fun j=>t.T i j / t.T i s:=by funext j; simp [piv,pivT]
  rw [e,Alo]
 ·rw [if_neg h];have e:(piv t r s).T i=fun j=>t.T i j - t.T i s*(t.T r j / t.T r s):=by funext j; simp [piv,pivT,h]
  rw [e,Afw]
theorem piv_ker {m N:Nat} {t:Tab} {r s:Nat} (hr:r<m) (hp:t.T r s≠0) (x:Nat->Rat):Ker m N (piv t r s) x↔Ker m N t x:=by
 constructor
 ·intro h;have h0:=h r hr;rw [Aef,if_pos rfl] at h0;have cg:dot N (t.T r) x=0:=by
   have:dot N (t.T r) x=dot N (t.T r) x / t.T r s*t.T r s:=aL
   rw [this,h0]; grind
  intro i hi;have h1:=h i hi;rw [Aef] at h1;by_cases e:i=r
  ·subst e; exact cg
  ·rw [if_neg e,cg] at h1; grind
 ·intro h i hi;rw [Aef,h r hr,h i hi];split <;> grind
theorem piv_cost {m N:Nat} {t:Tab} {r s:Nat} (hr:r<m) {x:Nat->Rat} (hx:Ker m N t x):dot N (piv t r s).c x=dot N t.c x:=by
 show dot N (fun j=>t.c j - t.c s*(t.T r j / t.T r s)) x=_;rw [Afw,hx r hr]; grind
structure Fit (m N:Nat) (t:Tab):Prop where
 lt:∀ i,i<m->t.B i<N
 unit:∀ i k,i<m->k<m->t.T i (t.B k)=if i=k then 1 else 0
 free:∀ k,k<m->t.c (t.B k)=0
theorem Fit.inj {m N:Nat} {t:Tab} (h:Fit m N t) {i k:Nat} (hi:i<m) (hk:k<m) (e:t.B i=t.B k):i=k:=by
 have h1:=h.unit i i hi hi;have h2:=h.unit i k hi hk;rw [e,h2] at h1;by_cases v7:i=k
 ·exact v7
 ·rw [if_neg v7,if_pos rfl] at h1; grind
theorem piv_fit {m N:Nat} {t:Tab} {r s:Nat} (h:Fit m N t) (hr:r<m) (hs:s<N) (hp:t.T r s≠0):Fit m N (piv t r s):=by
 refine ⟨fun i hi=>?_,fun i k hi hk=>?_,fun k hk=>?_⟩
 ·show (if i=r then s else t.B i)<N;split
  ·exact hs
  ·exact h.lt i hi
 ·show pivT t r s i (if k=r then s else t.B k)=_;unfold pivT;by_cases hkr:k=r
  ·subst hkr;simp only [if_pos];by_cases v7:i=k
   ·subst v7;exact Ya1y
   ·rw [if_neg v7,if_neg v7]; grind
  ·rw [if_neg hkr];have h1:=h.unit r k hr hk;rw [if_neg (I8 hkr)] at h1;have h2:=h.unit i k hi hk;by_cases wy:i=r
   ·subst wy; rw [if_pos rfl,h1,if_neg (I8 hkr)]; grind
   ·rw [if_neg wy,h1,h2]; grind
 ·show t.c (if k=r then s else t.B k) - t.c s*(t.T r (if k=r then s else t.B k) / t.T r s)=0;by_cases hkr:k=r
  ·subst hkr; simp only [if_pos]; grind
  ·rw [if_neg hkr,h.free k hk];have h1:=h.unit r k hr hk;rw [if_neg (I8 hkr)] at h1;rw [h1]; grind
def dir (m:Nat) (t:Tab) (s:Nat) (j:Nat):Rat:=(if j=s then 1 else 0) - sum m fun k=>if j=t.B k then t.T k s else 0
theorem Yu {m N:Nat} {t:Tab} (h:Fit m N t) {s:Nat} (hs:s<N+1) (a:Nat->Rat):dot N a (dir m t s)=a s - sum m fun k=>t.T k s*a (t.B k):=by
 unfold dot dir;have e1:∀ j,a j*((if j=s then 1 else 0) - sum m fun k=>if j=t.B k then t.T k s else 0)=(if j=s then a j else 0) - sum m fun k=>if j=t.B k then t.T k s*a j else 0:=by
  intro j;have e2:(sum m fun k=>if j=t.B k then t.T k s*a j else 0)=a j*sum m fun k=>if j=t.B k then t.T k s else 0:=by
   rw [<- Hy];exact sum_congr fun k _=>gC
  rw [e2];split <;> grind
 rw [sum_congr fun j _=>e1 j,Aet,sum_one hs,Q4];congr 1;exact sum_congr fun k hk=>by
  have hb:t.B k<N+1:=by have:=h.lt k hk; omega
  rw [sum_one (f:=fun j=>t.T k s*a j) hb]
theorem Uw {m N:Nat} {t:Tab} (h:Fit m N t) {s:Nat} (hs:s<N+1):Ker m N t (dir m t s):=by
 intro i hi;rw [Yu h hs];have:(sum m fun k=>t.T k s*t.T i (t.B k))=t.T i s:=by
  rw [sum_congr (g:=fun k=>if k=i then t.T k s else 0) fun k hk=>?_,sum_one (f:=fun k=>t.T k s) hi];rw [h.unit i k hi hk];exact Ya4l
 rw [this]; grind
theorem Tz {m N:Nat} {t:Tab} (h:Fit m N t) {s:Nat} (hs:s<N+1):dot N t.c (dir m t s)=t.c s:=by
 rw [Yu h hs,sum_zero fun k hk=>by rw [h.free k hk]; grind]; grind
theorem Axp {m N:Nat} {t u:Tab} (ht:Fit m N t) (hu:Fit m N u) (hB:∀ i,i<m->t.B i=u.B i) (hk:∀ x,Ker m N t x->Ker m N u x) (hc:∀ x,Ker m N t x->dot N u.c x=dot N t.c x) :
  (∀ i j,i<m->j<N+1->t.T i j=u.T i j)/\∀ j,j<N+1->t.c j=u.c j:=by
 have key:∀ a j,j<N+1->dot N a (dir m t j)=a j - sum m fun k=>t.T k j*a (u.B k):=fun a j hj=>by
  rw [Yu ht hj];congr 1;exact sum_congr fun k hk=>by rw [hB k hk]
 constructor
 ·intro i j hi hj;have h1:=hk _ (Uw ht hj) i hi;rw [key _ j hj] at h1;have:(sum m fun k=>t.T k j*u.T i (u.B k))=t.T i j:=by
   rw [sum_congr (g:=fun k=>if k=i then t.T k j else 0) fun k hk=>?_,sum_one (f:=fun k=>t.T k j) hi];rw [hu.unit i k hi hk];exact Ya4l
  rw [this] at h1;grind
 ·intro j hj;have h1:=hc _ (Uw ht hj);rw [key _ j hj,Tz ht hj,sum_zero fun k hk=>by rw [hu.free k hk]; grind] at h1;grind
end Go.Proofs.YthelkgdmgihhiaaGreat.Simp
namespace Go.Proofs.YthelkgdmgihhiaaGreat.Simp
structure Step (m N L:Nat) (t:Tab) (r s:Nat):Prop where
 r_lt:r<m
 s_lt:s<L
 neg:t.c s<0
 first:∀ j,j<s->0<=t.c j
 pos:0<t.T r s
 least:∀ i,i<m->0<t.T i s->t.T r N / t.T r s<=t.T i N / t.T i s
 tie:∀ i,i<m->0<t.T i s->t.T r N / t.T r s=t.T i N / t.T i s->t.B r<=t.B i
structure Run (m N L K:Nat) where
 t:Nat->Tab
 r:Nat->Nat
 s:Nat->Nat
 step:∀ k,k<K->Step m N L (t k) (r k) (s k)
 next:∀ k,k<K->t (k+1)=piv (t k) (r k) (s k)
 fit:Fit m N (t 0)
 LN:L<=N
 right:∀ i,i<m->0<=(t 0).T i N
section
variable {m N L K:Nat} (R:Run m N L K)
theorem Run.fits (k:Nat) (h:k<=K):Fit m N (R.t k):=by
 induction k with
 | zero=>exact R.fit
 | succ k ih =>
  have hs:=R.step k aA;rw [R.next k aA];exact piv_fit (ih aA) hs.r_lt (by have:=hs.s_lt; have:=R.LN; omega) (by have:=hs.pos; grind)
theorem N3 {a b:Rat} (ha:0<=a) (hb:0<b):0<=a / b:=by
 rw [Rat.div_def];exact iT ha (Rat.le_of_lt (Rat.inv_pos.mpr hb))
theorem Run.rights (k:Nat) (h:k<=K):∀ i,i<m->0<=(R.t k).T i N:=by
 induction k with
 | zero=>exact R.right
 | succ k ih0 =>
  intro i hi;have hs:=R.step k aA;have ih:=ih0 aA;have hr:=ih (R.r k) hs.r_lt;have hq:=N3 hr hs.pos;rw [R.next k aA];show 0<=pivT _ _ _ _ _;unfold pivT;split
  ·exact hq
  ·have au:=ih i hi;by_cases hp:0<(R.t k).T i (R.s k)
   ·have hl:=hs.least i hi hp;have h1:(R.t k).T i (R.s k)*((R.t k).T (R.r k) N / (R.t k).T (R.r k) (R.s k))<=(R.t k).T i (R.s k)*((R.t k).T i N / (R.t k).T i (R.s k)):=Rat.mul_le_mul_of_nonneg_left hl (Rat.le_of_lt hp);have h2:(R.t k).T i (R.s k)*((R.t k).T i N / (R.t k).T i (R.s k))=(R.t k).T i N:=aL
    grind
   ·have h1:0<=(-(R.t k).T i (R.s k))*((R.t k).T (R.r k) N / (R.t k).T (R.r k) (R.s k)):=iT aL hq;grind
theorem Run.ker {k l:Nat} (hkl:k<=l) (hl:l<=K) (x:Nat->Rat):Ker m N (R.t l) x↔Ker m N (R.t k) x:=by
 induction l with
 | zero =>
  have:k=0:=aA
  subst this; exact Iff.rfl
 | succ l ih =>
  by_cases e:k=l+1
  ·subst e; exact Iff.rfl
  ·have hs:=R.step l aA;rw [R.next l aA,piv_ker hs.r_lt (by have:=hs.pos; grind)];exact ih aA aA
theorem Run.cost {k l:Nat} (hkl:k<=l) (hl:l<=K) {x:Nat->Rat} (hx:Ker m N (R.t k) x):dot N (R.t l).c x=dot N (R.t k).c x:=by
 induction l with
 | zero =>
  have:k=0:=aA
  subst this; rfl
 | succ l ih =>
  by_cases e:k=l+1
  ·subst e; rfl
  ·have hs:=R.step l aA;rw [R.next l aA,piv_cost hs.r_lt ((R.ker (k:=k) aA aA x).2 hx)];exact ih aA aA
theorem Run.gain {k:Nat} (h:k<K):(R.t (k+1)).c N=(R.t k).c N+(-(R.t k).c (R.s k))*((R.t k).T (R.r k) N / (R.t k).T (R.r k) (R.s k)):=by
 rw [R.next k h];show (R.t k).c N - _=_;grind
theorem Run.grow {k:Nat} (h:k<K):(R.t k).c N<=(R.t (k+1)).c N:=by
 have hs:=R.step k h;have h1:0<=(-(R.t k).c (R.s k))*((R.t k).T (R.r k) N / (R.t k).T (R.r k) (R.s k)):=iT (by have:=hs.neg; grind) (N3 (R.rights k aA _ hs.r_lt) hs.pos);rw [R.gain h]; grind
theorem Run.mono {k l:Nat} (hkl:k<=l) (hl:l<=K):(R.t k).c N<=(R.t l).c N:=by
 induction l with
 | zero =>
  have:k=0:=aA
  subst this; exact iU
 | succ l ih =>
  by_cases e:k=l+1
  ·subst e; exact iU
  ·exact Rat.le_trans (ih aA aA) (R.grow aA)
theorem Run.basis {k:Nat} (h:k<K) (i:Nat):(R.t (k+1)).B i=if i=R.r k then R.s k else (R.t k).B i:=by rw [R.next k h]; rfl
theorem Run.out {k l i y:Nat} (hkl:k<=l) (hl:l<=K) (h1:(R.t k).B i=y) (h2:(R.t l).B i≠y):∃ j,k<=j/\j<l/\R.r j=i/\(R.t j).B i=y:=by
 induction l with
 | zero =>
  have:k=0:=aA
  subst this; exact absurd h1 h2
 | succ l ih =>
  by_cases e:k=l+1
  ·subst e; exact absurd h1 h2
  ·by_cases h3:(R.t l).B i=y
   ·refine ⟨l,aA,aA,?_,h3⟩;rw [R.basis aA] at h2;by_cases e2:i=R.r l
    ·exact e2.symm
    ·rw [if_neg e2] at h2; exact absurd h3 h2
   ·obtain ⟨j,a,b,c⟩:=ih aA aA h3;exact ⟨j,a,aA,c⟩
theorem Run.into {k l i y:Nat} (hkl:k<=l) (hl:l<=K) (h1:(R.t k).B i≠y) (h2:(R.t l).B i=y):∃ j,k<=j/\j<l/\R.r j=i/\R.s j=y:=by
 induction l with
 | zero =>
  have:k=0:=aA
  subst this; exact absurd h2 h1
 | succ l ih =>
  by_cases e:k=l+1
  ·subst e; exact absurd h2 h1
  ·by_cases h3:(R.t l).B i=y
   ·obtain ⟨j,a,b,c⟩:=ih aA aA h3;exact ⟨j,a,aA,c⟩
   ·rw [R.basis aA] at h2;by_cases e2:i=R.r l
    ·rw [if_pos e2] at h2; exact ⟨l,aA,aA,e2.symm,h2⟩
    ·rw [if_neg e2] at h2; exact absurd h2 h3
theorem At9 {f:Nat->Nat} {p q:Nat} (h:p<q):∃ k,p<=k/\k<q/\∀ j,p<=j->j<q->f j<=f k:=by
 obtain ⟨d,rfl⟩:∃ d,q=p+d+1:=⟨q - p - 1,aA⟩;clear h;induction d with
 | zero=>exact ⟨p,aA,aA,fun j h1 h2=>by
   have:j=p:=aA
   subst this; exact Ce _⟩
 | succ d ih =>
  obtain ⟨k,h1,h2,h3⟩:=ih;by_cases h4:f k<=f (p+d+1)
  ·refine ⟨p+d+1,aA,aA,fun j h5 h6=>?_⟩;by_cases e:j=p+d+1
   ·subst e;exact Ya3f
   ·exact Fh (h3 j h5 aA) h4
  ·refine ⟨k,h1,aA,fun j h5 h6=>?_⟩;by_cases e:j=p+d+1
   ·subst e; omega
   ·exact h3 j h5 aA
theorem Run.bland {p q:Nat} (hpq:p<q) (hq:q<=K) (hB:∀ i,i<m->(R.t p).B i=(R.t q).B i):False:=by
 have hfp:=R.fits p aA;have hfq:=R.fits q hq;obtain ⟨-,hc⟩:=Axp hfp hfq hB (fun x hx=>(R.ker aA hq x).2 hx) (fun x hx=>R.cost aA hq hx);have hz:∀ k,p<=k->k<q->(R.t k).T (R.r k) N=0:=fun k h1 h2=>by
  have hs:=R.step k aA;have g0:=R.mono h1 (show k<=K by omega);have g1:=R.mono (show k+1<=q by omega) hq;have g2:=R.grow (k:=k) aA;have g3:=hc N aA;have g4:=R.gain (k:=k) aA;have g5:(-(R.t k).c (R.s k))*((R.t k).T (R.r k) N / (R.t k).T (R.r k) (R.s k))=0:=aL
  have hn:=hs.neg;have hp:=hs.pos;grind
 have hb:∀ k,p<=k->k<=q->∀ i,i<m->(R.t k).T i N=(R.t p).T i N:=by
  intro k h1 h2;induction k with
  | zero =>
   have:p=0:=aA
   subst this; exact fun _ _=>rfl
  | succ k ih =>
   by_cases e:p=k+1
   ·subst e; exact fun _ _=>rfl
   ·intro i hi;have h0:=hz k aA aA;rw [<- ih aA aA i hi,R.next k aA];show pivT _ _ _ _ _=_;unfold pivT;by_cases e2:i=R.r k
    ·subst e2; rw [if_pos rfl,h0]; grind
    ·rw [if_neg e2,h0]; grind
 have bj:∀ k j,p<=k->k<q->p<=j->j<=q->(R.t j).T (R.r k) N=0:=fun k j h1 h2 h3 h4=>by
  have hs:=R.step k aA;rw [hb j h3 h4 _ hs.r_lt,<- hb k h1 aA _ hs.r_lt];exact hz k h1 h2
 have dd:∀ {i y k l:Nat},i<m->p<=k->k<=q->p<=l->l<=q->(R.t k).B i=y->(R.t l).B i≠y->∃ j,p<=j/\j<q/\R.r j=i/\R.s j=y:=by
  intro i y k l hi h1 h2 h3 h4 h5 h6;by_cases e:(R.t p).B i=y
  ·obtain ⟨j,a,b,c⟩:=R.into h4 hq h6 ((hB i hi).symm.trans e);exact ⟨j,aA,b,c⟩
  ·obtain ⟨j,a,b,c⟩:=R.into h1 aA e h5;exact ⟨j,a,aA,c⟩
 obtain ⟨k1,a1,a2,a3⟩:=At9 (f:=R.s) hpq;have dy:=R.step k1 aA;have o4:=R.fits k1 aA;obtain ⟨y,hy⟩:∃ y,y=R.s k1:=⟨_,rfl⟩;have a1b:∃ k2,p<=k2/\k2<q/\(R.t k2).B (R.r k2)=y:=by
  have a3q:(R.t k1).B (R.r k1)≠y:=fun e=>by
   have:=o4.free _ dy.r_lt;rw [e,hy] at this;have:=dy.neg;grind
  have gy:(R.t (k1+1)).B (R.r k1)=y:=by rw [R.basis aA,if_pos rfl,hy]
  by_cases e:(R.t q).B (R.r k1)=y
  ·obtain ⟨j,b1,b2,b3,b4⟩:=R.out a1 aA ((hB _ dy.r_lt).trans e) a3q;exact ⟨j,b1,aA,by rw [b3]; exact b4⟩
  ·obtain ⟨j,b1,b2,b3,b4⟩:=R.out (show k1+1<=q by omega) hq gy e;exact ⟨j,aA,b2,by rw [b3]; exact b4⟩
 obtain ⟨k2,c1,c2,c3⟩:=a1b;have du:=R.step k2 aA;have cz:=R.fits k2 aA;have hsN:R.s k2<N+1:=by have:=du.s_lt; have:=R.LN; omega
 have hd:=Uw cz hsN;have e1:=Tz cz hsN;have e2:dot N (R.t k1).c (dir m (R.t k2) (R.s k2))=dot N (R.t k2).c (dir m (R.t k2) (R.s k2)):=by
  rcases Nat.le_total k1 k2 with h|h
  ·exact (R.cost h aA ((R.ker h aA _).1 hd)).symm
  ·exact R.cost h aA hd
 rw [e1,Yu cz hsN] at e2;have hsy:R.s k2<y:=by
  have h1:=a3 k2 c1 c2;rw [<- hy] at h1;have h2:R.s k2≠y:=fun e=>by
   have h3:=cz.free _ du.r_lt;rw [c3,<- e] at h3;have:=du.neg;grind
  omega
 have h0:=dy.first (R.s k2) (by rw [<- hy]; exact hsy)
 have a4s:=du.neg;obtain ⟨i,hi,hip⟩:=Tn (n:=m) (f:=fun k=>(R.t k2).T k (R.s k2)*(R.t k1).c ((R.t k2).B k)) aL;have hx:∀ i',i'<m->(R.t k1).B i'≠(R.t k2).B i:=fun i' au e=>by
  have:=o4.free i' au;rw [e] at this;rw [this] at hip;grind
 obtain ⟨j,d1,d2,d3,d4⟩:=dd hi c1 aA a1 aA rfl (hx i hi);have hle:(R.t k2).B i<=y:=by rw [<- d4,hy]; exact a3 j d1 d2
 have hbi:(R.t k2).T i N=0:=by rw [<- d3]; exact bj j k2 d1 d2 c1 aA
 have hne:(R.t k2).B i≠y:=fun e=>by
  have wy:i=R.r k2:=cz.inj hi du.r_lt (e.trans c3.symm);subst wy;rw [c3,hy] at hip;have h1:=dy.neg;have h2:=du.pos;have h3:0<(R.t k2).T (R.r k2) (R.s k2)*(-(R.t k1).c (R.s k1)):=Rat.mul_pos h2 aL;grind
 have h5:=dy.first ((R.t k2).B i) (by rw [<- hy]; omega)
 have h6:0<(R.t k2).T i (R.s k2):=by
  refine jC fun h=>?_;have h7:0<=(-(R.t k2).T i (R.s k2))*(R.t k1).c ((R.t k2).B i):=iT aL h5;grind
 have h8:=du.tie i hi h6 (by rw [hbi,hz k2 c1 c2]; grind);rw [c3] at h8;omega
end
end Go.Proofs.YthelkgdmgihhiaaGreat.Simp
namespace Go.Proofs.YthelkgdmgihhiaaGreat.Simp
theorem Anc:∀ (M:Nat) (f:Nat->Nat),(∀ k,k<=M->f k<M)->∃ p q,p<q/\q<=M/\f p=f q
 | 0,f,h=>absurd (h 0 (Ce _)) aA
 | M+1,f,h=>by
  by_cases hx:∃ k,k<=M/\f k=f (M+1)
  ·obtain ⟨k,h1,h2⟩:=hx;exact ⟨k,M+1,aA,Ce _,h2⟩
  ·have hne:∀ k,k<=M->f k≠f (M+1):=fun k hk e=>hx ⟨k,hk,e⟩;obtain ⟨p,q,h1,h2,h3⟩:=Anc M (fun k=>if f k > f (M+1) then f k - 1 else f k) fun k hk=>by
    have a:=h k aA;have b:=h (M+1) (Ce _);have c:=hne k hk;exact Ya3v
   have a:=hne p aA;have b:=hne q h2;refine ⟨p,q,h1,aA,?_⟩;split at h3 <;> split at h3 <;> omega
def code (N:Nat) (B:Nat->Nat):Nat->Nat
 | 0=>0
 | m+1=>code N B m*N+B m
theorem Ado {N:Nat} {B:Nat->Nat} : ∀ {m:Nat},(∀ i,i<m->B i<N)->code N B m<N ^ m
 | 0,_=>by simp [code]
 | m+1,h=>by
  have h1:=Ado (m:=m) fun i hi=>h i aA;have h2:=h m aA;rw [code,O5];have h3:(code N B m+1)*N<=N ^ m*N:=F8 _ h1;rw [V9] at h3;omega
theorem Yo {N:Nat} {B C:Nat->Nat} : ∀ {m:Nat},(∀ i,i<m->B i<N)->(∀ i,i<m->C i<N)->code N B m=code N C m->∀ i,i<m->B i=C i
 | 0,_,_,_,i,hi=>aA
 | m+1,hb,hc,h,i,hi=>by
  have h1:=hb m aA;have h2:=hc m aA;rw [code,code] at h;have e1:B m=C m:=by
   have a:(code N B m*N+B m) % N=B m:=by rw [I5,Nat.mul_add_mod]; exact O3 h1
   have b:(code N C m*N+C m) % N=C m:=by rw [I5,Nat.mul_add_mod]; exact O3 h2
   rw [h] at a;exact a.symm.trans b
  have e2:code N B m=code N C m:=by
   rw [e1] at h;have h3:code N B m*N=code N C m*N:=aA
   exact Nat.eq_of_mul_eq_mul_right aA h3
  by_cases e:i=m
  ·subst e; exact e1
  ·exact Yo (fun i hi=>hb i aA) (fun i hi=>hc i aA) e2 i aA
theorem Run.short {m N L K:Nat} (R:Run m N L K):K<N ^ m:=by
 refine jC fun hk=>?_;have hk:N ^ m<=K:=aA
 obtain ⟨p,q,h1,h2,h3⟩:=Anc (N ^ m) (fun k=>code N (R.t k).B m) fun k wm=>Ado (R.fits k aA).lt;exact R.bland h1 aA (Yo (R.fits p aA).lt (R.fits q aA).lt h3)
def Run.none {m N L:Nat} {t:Tab} (h:Fit m N t) (hL:L<=N) (hr:∀ i,i<m->0<=t.T i N):Run m N L 0:=⟨fun _=>t,fun _=>0,fun _=>0,fun k hk=>aA,fun k hk=>aA,h,hL,hr⟩
def Run.more {m N L K:Nat} (R:Run m N L K) {r s:Nat} (h:Step m N L (R.t K) r s):Run m N L (K+1) where
 t:=fun k=>if k=K+1 then piv (R.t K) r s else R.t k
 r:=fun k=>if k=K then r else R.r k
 s:=fun k=>if k=K then s else R.s k
 step:=fun k hk=>by
  rw [if_neg (show ¬ k=K+1 by omega)];by_cases e:k=K
  ·subst e; rw [if_pos rfl,if_pos rfl]; exact h
  ·rw [if_neg e,if_neg e]; exact R.step k aA
 next:=fun k hk=>by
  rw [if_neg (show ¬ k=K+1 by omega)];by_cases e:k=K
  ·subst e; rw [if_pos rfl,if_pos rfl,if_pos rfl]
  ·rw [if_neg e,if_neg e,if_neg aA]; exact R.next k aA
 fit:=by rw [if_neg aA]; exact R.fit
 LN:=R.LN
 right:=by rw [if_neg aA]; exact R.right
theorem Run.more_last {m N L K:Nat} (R:Run m N L K) {r s:Nat} (h:Step m N L (R.t K) r s):(R.more h).t (K+1)=piv (R.t K) r s:=if_pos rfl
theorem Run.more_old {m N L K:Nat} (R:Run m N L K) {r s:Nat} (h:Step m N L (R.t K) r s) {k:Nat} (hk:k<=K):(R.more h).t k=R.t k:=if_neg aA
structure Sol (m N:Nat) (t:Tab) (x:Nat->Rat):Prop where
 ker:Ker m N t x
 pos:∀ j,j<N->0<=x j
 one:x N=-1
def base (m N:Nat) (t:Tab) (j:Nat):Rat:=- dir m t N j
theorem Alp (N:Nat) (a x:Nat->Rat):dot N a (fun j=>- x j)=- dot N a x:=by
 unfold dot;have h:=Hy (-1) (fun j=>a j*x j) (N+1);rw [sum_congr (g:=fun j=>-1*(a j*x j)) fun j _=>aL,h]; grind
theorem Afh {m N:Nat} {t:Tab} (h:Fit m N t) (hr:∀ i,i<m->0<=t.T i N):Sol m N t (base m N t):=by
 refine ⟨fun i hi=>?_,fun j hj=>?_,?_⟩
 ·have:=Uw h (s:=N) aA i hi;show dot N (t.T i) (fun j=>- dir m t N j)=0;rw [Alp,this]; grind
 ·show 0<=- dir m t N j;unfold dir;rw [if_neg aA];have:0<=sum m fun k=>if j=t.B k then t.T k N else 0:=sum_nonneg fun k hk=>by
   split
   ·exact hr k hk
   ·exact iU
  grind
 ·show - dir m t N N=-1;unfold dir;rw [if_pos rfl,sum_zero fun k hk=>if_neg (by have:=h.lt k hk; omega)]; grind
theorem Aar {m N:Nat} {t:Tab} (h:Fit m N t):dot N t.c (base m N t)=- t.c N:=by
 show dot N t.c (fun j=>- dir m t N j)=_;rw [Alp,Tz h aA]
theorem Acu {f:Nat->Rat} {L:Nat} : ∀ {N:Nat},L<=N->(∀ j,L<=j->j<N->f j=0)->sum N f=sum L f
 | 0,h,_=>by
  have:L=0:=aA
  subst this; rfl
 | N+1,h,hz=>by
  by_cases e:L=N+1
  ·subst e; rfl
  ·rw [sum,hz N aA aA,Acu aA fun j h1 h2=>hz j h1 aA]; grind
theorem Ap8 {m N L:Nat} {t:Tab} (hL:L<=N) (hc:∀ j,j<L->0<=t.c j) {x:Nat->Rat} (hx:Sol m N t x) (h0:∀ j,L<=j->j<N->x j=0) : - t.c N<=dot N t.c x:=by
 have h1:0<=sum N fun j=>t.c j*x j:=by
  rw [Acu hL fun j h1 h2=>by rw [h0 j h1 h2]; grind];exact sum_nonneg fun j hj=>iT (hc j hj) (hx.pos j aA)
 unfold dot;rw [sum,hx.one]; grind
end Go.Proofs.YthelkgdmgihhiaaGreat.Simp
namespace Go.Proofs.YthelkgdmgihhiaaGreat.Simp
def isum:Nat->(Nat->Int)->Int
 | 0,_=>0
 | n+1,f=>isum n f+f n
theorem Agd (f g:Nat->Int):∀ n,isum n (fun j=>f j - g j)=isum n f - isum n g
 | 0=>rfl
 | n+1=>by simp only [isum,Agd f g n]; omega
theorem Rl {f:Nat->Int} {b:Nat} : ∀ {n:Nat},(∀ j,j<n->(f j).natAbs<=b)->(isum n f).natAbs<=n*b
 | 0,_=>by simp [isum]
 | n+1,h=>by
  have h1:=Rl (f:=f) (b:=b) (n:=n) fun j hj=>h j aA;have h2:=h n aA;rw [isum,V9]; omega
theorem Vg (f:Nat->Int):∀ n,((isum n f:Int):Rat)=sum n fun j=>((f j:Int):Rat)
 | 0=>by simp [isum,sum]
 | n+1=>by rw [isum,sum,jK,Vg f n]
def dg (b n k:Nat):Nat:=k / b ^ n % b
theorem Awf {b:Nat} (hb:0<b):∀ {d p q:Nat},p<b ^ d->q<b ^ d->(∀ n,n<d->dg b n p=dg b n q)->p=q
 | 0,p,q,hp,hq,_=>by simp at hp hq; omega
 | d+1,p,q,hp,hq,h=>by
  have h0:=h 0 aA;simp only [dg,Nat.pow_zero,Nat.div_one] at h0;have h1:p / b=q / b:=by
   refine Awf hb (d:=d) ?_ ?_ fun n hn=>?_
   ·rw [Ih hb,<- O5]; exact hp
   ·rw [Ih hb,<- O5]; exact hq
   ·have:=h (n+1) aA;simpa only [dg,O5,I5,Nat.div_div_eq_div_mul] using this
  have e1:=Ot p b;have e2:=Ot q b;rw [h1,h0] at e1;omega
theorem Axm (m M:Nat) (hM:1<=M) (a:Nat->Nat->Int) (ha:∀ i k,i<m->k<m+1->(a i k).natAbs<=M) :
  ∃ u:Nat->Int,(∃ k,k<m+1/\u k≠0)/\(∀ k,(u k).natAbs<=(2*((m+1)*M)) ^ m)/\∀ i,i<m->isum (m+1) (fun k=>a i k*u k)=0:=by
 obtain ⟨S,hS⟩:∃ S,S=(m+1)*M:=⟨_,rfl⟩;obtain ⟨H,hH⟩:∃ H,H=(2*S) ^ m:=⟨_,rfl⟩;have ci:1<=S:=by rw [hS]; exact Fh hM (Nat.le_mul_of_pos_left M aA)
 obtain ⟨W,hW⟩:∃ W,W=2*(H*S)+1:=⟨_,rfl⟩;have a3r:W ^ m<(H+1) ^ (m+1):=by
  have h1:W<=(H+1)*(2*S):=by
   have:(H+1)*(2*S)=2*(H*S)+2*S:=by rw [V9,Nat.mul_left_comm]; omega
   omega
  have h2:W ^ m<=((H+1)*(2*S)) ^ m:=Nat.pow_le_pow_left h1 m;rw [Nat.mul_pow,<- hH] at h2;have h3:(H+1) ^ (m+1)=(H+1) ^ m*(H+1):=O5 _ _;have h4:0<(H+1) ^ m:=jR aA;rw [h3,Nat.mul_add,Cw];omega
 obtain ⟨im,tm⟩:∃ im:Nat->Nat->Int,im=fun p i=>isum (m+1) fun k=>a i k*(dg (H+1) k p:Int):=⟨_,rfl⟩;have hdg:∀ k p,dg (H+1) k p<=H:=fun k p=>by
  have:=I7 (p / (H+1) ^ k) (show 0<H+1 by omega);unfold dg; omega
 have hb:∀ p i,i<m->(im p i).natAbs<=H*S:=fun p i hi=>by
  have h1:=Rl (f:=fun k=>a i k*(dg (H+1) k p:Int)) (b:=M*H) (n:=m+1) fun k hk=>by
   rw [Iq];exact Pz (ha i k hi hk) (by have:=hdg k p; omega)
  rw [tm,hS];refine Fh h1 (Nat.le_of_eq ?_);rw [<- Nat.mul_assoc,I5]
 obtain ⟨p,q,h1,h2,h3⟩:=Anc (W ^ m) (fun p=>code W (fun i=>(im p i+(H*S:Nat)).toNat) m) fun p _=>Ado fun i hi=>by
  have:=hb p i hi;omega
 have heq:=Yo (N:=W) (m:=m) (fun i hi=>by have:=hb p i hi; omega) (fun i hi=>by have:=hb q i hi; omega) h3;refine ⟨fun k=>(dg (H+1) k q:Int) - (dg (H+1) k p:Int),?_,fun k=>?_,fun i hi=>?_⟩
 ·refine jC fun hx=>?_;have:p=q:=Awf (b:=H+1) (d:=m+1) aA aA aA fun n hn=>by
   have ek:¬ ((dg (H+1) n q:Int) - (dg (H+1) n p:Int)≠0):=fun h=>hx ⟨n,hn,h⟩;omega
  omega
 ·rw [<- hS,<- hH];have:=hdg k p;have:=hdg k q;dsimp only;omega
 ·have e:isum (m+1) (fun k=>a i k*((dg (H+1) k q:Int) - (dg (H+1) k p:Int)))=im q i - im p i:=by
   rw [tm];show _=isum (m+1) _ - isum (m+1) _;rw [<- Agd];congr 1;funext k;rw [iS]
  rw [e];have h4:=heq i hi;have h5:=hb p i hi;have h6:=hb q i hi;omega
end Go.Proofs.YthelkgdmgihhiaaGreat.Simp
namespace Go.Proofs.YthelkgdmgihhiaaGreat.Simp
theorem sum_head (f:Nat->Rat):∀ n,sum (n+1) f=f 0+sum n fun k=>f (k+1)
 | 0=>eJ
 | n+1=>by
  rw [sum,sum_head f n,sum]; grind
def An4 (d:Nat) (col:Nat->Nat) (u:Nat->Int) (c:Nat):Rat:=sum d fun k=>if c=col k then ((u k:Int):Rat) else 0
theorem M6 {N d:Nat} {col:Nat->Nat} {u:Nat->Int} (hc:∀ k,k<d->col k<N+1) (a:Nat->Rat):dot N a (An4 d col u)=sum d fun k=>a (col k)*((u k:Int):Rat):=by
 unfold dot An4;have e1:∀ j,a j*(sum d fun k=>if j=col k then ((u k:Int):Rat) else 0)=sum d fun k=>if j=col k then a j*((u k:Int):Rat) else 0:=by
  intro j;rw [<- Hy];exact sum_congr fun k _=>gC
 rw [sum_congr fun j _=>e1 j,Q4];exact sum_congr fun k hk=>by
  have h:=sum_one (f:=fun j=>a j*((u k:Int):Rat)) (s:=col k) (hc k hk);exact h
theorem small {m N M Mc:Nat} (hM:1<=M) {t0 t:Tab} {a:Nat->Nat->Int} {a0:Nat->Int} (ha:∀ i j,i<m->j<N+1->t0.T i j=((a i j:Int):Rat)/\(a i j).natAbs<=M) (qe:∀ j,j<N+1->t0.c j=((a0 j:Int):Rat)/\(a0 j).natAbs<=Mc)
  (ht:Fit m N t) (hk:∀ x,Ker m N t0 x->Ker m N t x) (hc:∀ x,Ker m N t0 x->dot N t.c x=dot N t0.c x) {j:Nat} (hj:j<N+1) :
  ∃ y0:Int,y0≠0/\y0.natAbs<=(2*((m+1)*M)) ^ m/\(∀ i,i<m->∃ y:Int,t.T i j=((y:Int):Rat) / ((y0:Int):Rat)/\y.natAbs<=(2*((m+1)*M)) ^ m)/\∃ w:Int,t.c j=((w:Int):Rat) / ((y0:Int):Rat)/\w.natAbs<=(m+1)*(Mc*(2*((m+1)*M)) ^ m):=by
 obtain ⟨col,ef⟩:∃ col:Nat->Nat,col=fun k=>if k=0 then j else t.B (k - 1):=⟨_,rfl⟩
 have hlt:∀ k,k<m+1->col k<N+1:=fun k hk=>by
  rw [ef]; dsimp only;split
  ·exact hj
  ·have:=ht.lt (k - 1) aA; omega
 have gp:∀ k,col (k+1)=t.B k:=fun k=>by rw [ef]; simp
 have hc0:col 0=j:=by rw [ef]; simp
 obtain ⟨u,⟨k0,hk0,xr⟩,hub,hu⟩:=Axm m M hM (fun i k=>a i (col k)) fun i k hi hk=>(ha i (col k) hi (hlt k hk)).2;have hx:Ker m N t0 (An4 (m+1) col u):=by
  intro i hi;rw [M6 hlt];have h1:=congrArg (fun z:Int=>(z:Rat)) (hu i hi);rw [Vg] at h1;rw [sum_congr (g:=fun k=>((a i (col k)*u k:Int):Rat)) fun k hk=>by rw [(ha i (col k) hi (hlt k hk)).1,Fb]];rw [h1]; rfl
 have bj:∀ i,i<m->t.T i j*((u 0:Int):Rat)+((u (i+1):Int):Rat)=0:=fun i hi=>by
  have h1:=hk _ hx i hi;rw [M6 hlt,sum_head,hc0] at h1;rw [sum_congr (g:=fun k=>if k=i then ((u (k+1):Int):Rat) else 0) fun k hk=>by
   rw [gp,ht.unit i k hi hk];by_cases e:i=k
   ·subst e;exact Ya1y
   ·rw [if_neg e,if_neg (I8 e)]; grind] at h1
  rw [sum_one (f:=fun k=>((u (k+1):Int):Rat)) hi] at h1;exact h1
 have hy:u 0≠0:=fun h0=>by
  rw [h0] at bj;cases k0 with
  | zero=>exact xr h0
  | succ i =>
   have h1:=bj i aA;have h2:((u (i+1):Int):Rat)=((0:Int):Rat):=by
    have:((0:Int):Rat)=0:=rfl;rw [this] at h1 ⊢;grind
   exact xr (kP.mp h2)
 have hyr:((u 0:Int):Rat)≠0:=fun h=>hy (kP.mp (h.trans rfl));refine ⟨u 0,hy,hub 0,fun i hi=>⟨-(u (i+1)),?_,by have:=hub (i+1); omega⟩,?_⟩
 ·have h1:=bj i hi;rw [Og];grind
 ·have h1:=hc _ hx;rw [M6 hlt,M6 hlt,sum_head,hc0,sum_zero fun k hk=>by rw [gp,ht.free k hk]; grind] at h1;refine ⟨isum (m+1) fun k=>a0 (col k)*u k,?_,?_⟩
  ·rw [Vg];rw [sum_congr (g:=fun k=>((a0 (col k)*u k:Int):Rat)) fun k hk=>by rw [(qe (col k) (hlt k hk)).1,Fb]] at h1;rw [<- h1]; grind
  ·exact Rl fun k hk=>by
    rw [Iq];exact Pz (qe (col k) (hlt k hk)).2 (hub k)
end Go.Proofs.YthelkgdmgihhiaaGreat.Simp
namespace Go.Proofs.YthelkgdmgihhiaaGreat.Simp
theorem Zu (f:Nat->Rat) (L:Nat):∀ m,sum (L+m) f=sum L f+sum m fun k=>f (L+k)
 | 0=>by simp only [sum,Ie]; grind
 | m+1=>by
  rw [<- O4,sum,Zu f L m,sum]; grind
theorem Ahe {f:Nat->Rat} : ∀ {n:Nat},(∀ j,j<n->0<=f j)->sum n f=0->∀ j,j<n->f j=0
 | 0,_,_,j,hj=>aA
 | n+1,h,h0,j,hj=>by
  rw [sum] at h0;have h1:=sum_nonneg (f:=f) (n:=n) fun j hj=>h j aA;have h2:=h n aA;by_cases e:j=n
  ·subst e; grind
  ·exact Ahe (n:=n) (fun j hj=>h j aA) (show sum n f=0 by grind) j aA
theorem R4 (f:Nat->Rat) (n:Nat):sum n (fun j=>- f j)=- sum n f:=by
 have h:=Hy (-1) f n;rw [sum_congr (g:=fun j=>-1*f j) fun j _=>aL,h]; grind
def first (m L:Nat) (R:Nat->Nat->Rat) (b:Nat->Rat):Tab where
 T:=fun i j=>if j<L then R i j else if j<L+m then (if j=L+i then 1 else 0) else b i
 c:=fun j=>if j<L then - sum m (fun i=>R i j) else if j<L+m then 0 else - sum m b
 B:=fun i=>L+i
theorem first_fit (m L:Nat) (R:Nat->Nat->Rat) (b:Nat->Rat):Fit m (L+m) (first m L R b):=by
 refine ⟨fun i hi=>by show L+i<L+m; omega,fun i k hi hk=>?_,fun k hk=>?_⟩
 ·show (if L+k<L then R i (L+k) else if L+k<L+m then (if L+k=L+i then 1 else 0) else b i)=_;rw [if_neg aA,if_pos aA];by_cases e:i=k
  ·subst e; rw [if_pos rfl,if_pos rfl]
  ·rw [if_neg aA,if_neg e]
 ·show (if L+k<L then - sum m (fun i=>R i (L+k)) else if L+k<L+m then 0 else - sum m b)=0;rw [if_neg aA,if_pos aA]
theorem U9 {m L:Nat} {R:Nat->Nat->Rat} {b:Nat->Rat} {i:Nat} (hi:i<m) (x:Nat->Rat):dot (L+m) ((first m L R b).T i) x=sum L (fun j=>R i j*x j)+x (L+i)+b i*x (L+m):=by
 unfold dot;rw [sum,Zu];have e1:sum L (fun j=>(first m L R b).T i j*x j)=sum L fun j=>R i j*x j:=sum_congr fun j hj=>by simp only [first]; rw [if_pos hj]
 have e2:(sum m fun k=>(first m L R b).T i (L+k)*x (L+k))=x (L+i):=by
  rw [sum_congr (g:=fun k=>if k=i then x (L+k) else 0) fun k hk=>?_,sum_one (f:=fun k=>x (L+k)) hi];simp only [first];rw [if_neg aA,if_pos aA];by_cases e:k=i
  ·subst e;exact Ya1y
  ·rw [if_neg aA,if_neg e]; grind
 have e3:(first m L R b).T i (L+m)=b i:=Za6t
 rw [e1,e2,e3]
theorem first_cost {m L:Nat} {R:Nat->Nat->Rat} {b:Nat->Rat} {x:Nat->Rat} (h:Ker m (L+m) (first m L R b) x):dot (L+m) (first m L R b).c x=sum m fun i=>x (L+i):=by
 have h1:∀ i,i<m->x (L+i)=- (sum L (fun j=>R i j*x j)+b i*x (L+m)):=fun i hi=>by
  have:=h i hi;rw [U9 hi] at this;grind
 rw [sum_congr h1];unfold dot;rw [sum,Zu];have e1:sum L (fun j=>(first m L R b).c j*x j)=- sum m (fun i=>sum L fun j=>R i j*x j):=by
  rw [<- Q4,<- R4];refine sum_congr fun j hj=>?_;have e0:(first m L R b).c j=- sum m (fun i=>R i j):=by simp only [first]; rw [if_pos hj]
  rw [e0];have e2:=Hy (x j) (fun i=>R i j) m;rw [sum_congr (g:=fun i=>R i j*x j) fun i _=>aL] at e2;rw [e2]; grind
 have e2:(sum m fun k=>(first m L R b).c (L+k)*x (L+k))=0:=sum_zero fun k hk=>by
  simp only [first];rw [if_neg aA,if_pos aA]; grind
 have e3:(first m L R b).c (L+m)=- sum m b:=Za6t
 rw [e1,e2,e3];have e4:=Hy (x (L+m)) b m;rw [sum_congr (g:=fun i=>b i*x (L+m)) fun i _=>aL] at e4;rw [R4,sum_add,e4];grind
theorem phase {m L:Nat} {R:Nat->Nat->Rat} {b:Nat->Rat} {t:Tab} (ht:Fit m (L+m) t) (hr:∀ i,i<m->0<=t.T i (L+m)) (hk:∀ x,Ker m (L+m) t x↔Ker m (L+m) (first m L R b) x)
  (hc:∀ x,Ker m (L+m) (first m L R b) x->dot (L+m) t.c x=dot (L+m) (first m L R b).c x) (a3s:∀ j,j<L->0<=t.c j) :
  t.c (L+m)=0↔∃ x:Nat->Rat,(∀ j,j<L->0<=x j)/\∀ i,i<m->sum L (fun j=>R i j*x j)=b i:=by
 have hs:=Afh ht hr;have hk0:=(hk _).1 hs.ker;have e1:=hc _ hk0;rw [Aar ht,first_cost hk0] at e1;have hn:∀ i,i<m->0<=base m (L+m) t (L+i):=fun i hi=>hs.pos _ aA;constructor
 ·intro h0;rw [h0] at e1;have hz:=Ahe hn aL;refine ⟨base m (L+m) t,fun j hj=>hs.pos j aA,fun i hi=>?_⟩;have h1:=hk0 i hi;rw [U9 hi,hz i hi,hs.one] at h1;grind
 ·rintro ⟨x,hx,hb⟩;obtain ⟨x',hx'⟩:∃ x':Nat->Rat,x'=fun j=>if j<L then x j else if j<L+m then 0 else -1:=⟨_,rfl⟩
  have p1:∀ j,j<L->x' j=x j:=fun j hj=>by rw [hx']; exact if_pos hj
  have p2:∀ j,L<=j->j<L+m->x' j=0:=fun j h1 h2=>by
   rw [hx']; dsimp only; rw [if_neg aA,if_pos h2]
  have p3:x' (L+m)=-1:=by rw [hx']; dsimp only; rw [if_neg aA,if_neg aA]
  have a1c:Ker m (L+m) (first m L R b) x':=fun i hi=>by
   rw [U9 hi,p2 _ aA aA,p3,sum_congr (g:=fun j=>R i j*x j) fun j hj=>by rw [p1 j hj],hb i hi];grind
  have a3t:Sol m (L+m) t x':=⟨(hk _).2 a1c,fun j hj=>by
   by_cases h:j<L
   ·rw [p1 j h]; exact hx j h
   ·rw [p2 j aA hj]; exact iU,p3⟩
  have h2:=Ap8 aA a3s a3t p2;rw [hc _ a1c,first_cost a1c,sum_zero fun k hk=>p2 _ aA aA] at h2;have h3:=sum_nonneg hn;grind
end Go.Proofs.YthelkgdmgihhiaaGreat.Simp
namespace Go.Proofs.YthelkgdmgihhiaaGreat.Simp
theorem Aln (N:Nat) (a x y:Nat->Rat):dot N a (fun j=>x j+y j)=dot N a x+dot N a y:=by
 unfold dot;rw [<- sum_add];exact Ya4g
theorem Aa9 (N:Nat) (k:Rat) (a x:Nat->Rat):dot N a (fun j=>k*x j)=k*dot N a x:=by
 unfold dot;rw [<- Hy];exact Ya4g
structure Real (m N L:Nat) (t:Tab) (x:Nat->Rat):Prop where
 sol:Sol m N t x
 zero:∀ j,L<=j->j<N->x j=0
theorem Akr {m N L:Nat} {t:Tab} (h:Fit m N t) (hr:∀ i,i<m->0<=t.T i N) (ha:∀ i,i<m->L<=t.B i->t.T i N=0):Real m N L t (base m N t):=by
 refine ⟨Afh h hr,fun j h1 h2=>?_⟩;show - dir m t N j=0;unfold dir;rw [if_neg aA,sum_zero fun k hk=>?_]
 ·grind
 ·split
  ·rename_i e;exact ha k hk aA
  ·rfl
theorem least_none {m N L s:Nat} {t:Tab} {f:Nat->Rat} (h:Fit m N t) (hL:L<=N) (hr:∀ i,i<m->0<=t.T i N) (ha:∀ i,i<m->L<=t.B i->t.T i N=0) (hs:s<L) (hn:t.c s<0) (hp:∀ i,i<m->t.T i s<=0) (has:∀ i,i<m->L<=t.B i->t.T i s=0)
  (hf:∀ x,Ker m N t x->dot N t.c x=dot N f x) (V:Rat):∃ x,Real m N L t x/\dot N f x<V:=by
 have hb:=Akr h hr ha;obtain ⟨d,hd⟩:∃ d,d=dir m t s:=⟨_,rfl⟩;have lw:=Uw h (s:=s) aA;have rt:=Tz h (s:=s) aA;rw [<- hd] at lw rt;have de:∀ j,0<=d j:=fun j=>by
  rw [hd];unfold dir;have h1:0<=sum m fun k=>if j=t.B k then - t.T k s else 0:=sum_nonneg fun k hk=>by
   split
   ·have:=hp k hk; grind
   ·exact iU
  have h2:=R4 (fun k=>if j=t.B k then t.T k s else 0) m;rw [sum_congr (g:=fun k=>if j=t.B k then - t.T k s else 0) fun k _=>gC] at h2;rw [h2] at h1;split <;> grind
 have hdz:∀ j,L<=j->d j=0:=fun j hj=>by
  rw [hd];unfold dir;rw [if_neg aA,sum_zero fun k hk=>?_]
  ·grind
  ·split
   ·rename_i e;exact has k hk aA
   ·rfl
 obtain ⟨l,bw,hl⟩:∃ l:Rat,0<=l/\- t.c N+l*t.c s<V:=by
  by_cases hv : - t.c N<V
  ·exact ⟨0,iU,aL⟩
  ·refine ⟨(- t.c N - V+1) / (- t.c s),N3 aL aL,?_⟩;have:(- t.c N - V+1) / (- t.c s)*t.c s=- (- t.c N - V+1):=aL
   rw [this]; grind
 refine ⟨fun j=>base m N t j+l*d j,⟨⟨fun i hi=>?_,fun j hj=>?_,?_⟩,fun j h1 h2=>?_⟩,?_⟩
 ·rw [Aln,Aa9,hb.sol.ker i hi,lw i hi]; grind
 ·have h1:=hb.sol.pos j hj;have h2:=iT bw (de j);grind
 ·rw [hb.sol.one,hdz N hL]; grind
 ·rw [hb.zero j h1 h2,hdz j h1]; grind
 ·rw [Aln,Aa9,<- hf _ hb.sol.ker,Aar h,<- hf _ lw,rt];exact hl
end Go.Proofs.YthelkgdmgihhiaaGreat.Simp
namespace Go.Proofs.YthelkgdmgihhiaaGreat.Simp
theorem Acs (f:Nat->Rat):∀ n,sum (2*n) f=sum n fun k=>f (2*k)+f (2*k+1)
 | 0=>rfl
 | n+1=>by
  rw [show 2*(n+1)=2*n+1+1 by omega,sum,sum,Acs f n,sum]; grind
structure Sys where
 m:Nat
 n:Nat
 A:Nat->Nat->Rat
 c:Nat->Rat
 eq:Nat->Bool
def Sys.val (y:Sys) (v:Nat->Rat) (i:Nat):Rat:=sum y.n (fun k=>y.A i k*v k)+y.c i
def Sys.holds (y:Sys) (v:Nat->Rat):Prop:=∀ i,i<y.m->y.val v i<=0/\(y.eq i=true->y.val v i=0)
structure Cols (y:Sys) (L:Nat) (sg:Nat->Rat) (sl:Nat->Nat) (R:Nat->Nat->Rat) (b:Nat->Rat):Prop where
 sq:∀ i,i<y.m->sg i*sg i=1
 lt:2*y.n<=L
 even:∀ i k,i<y.m->k<y.n->R i (2*k)=sg i*y.A i k
 odd:∀ i k,i<y.m->k<y.n->R i (2*k+1)=- (sg i*y.A i k)
 slack:∀ i j,i<y.m->2*y.n<=j->j<L->R i j=if y.eq i=false/\j=sl i then sg i else 0
 slot:∀ i,i<y.m->y.eq i=false->2*y.n<=sl i/\sl i<L
 apart:∀ i k,i<y.m->k<y.m->y.eq i=false->y.eq k=false->sl i=sl k->i=k
 right:∀ i,i<y.m->b i=- (sg i*y.c i)
theorem Cols.row {y:Sys} {L:Nat} {sg:Nat->Rat} {sl:Nat->Nat} {R:Nat->Nat->Rat} {b:Nat->Rat} (h:Cols y L sg sl R b) {i:Nat} (hi:i<y.m) (x:Nat->Rat) :
  sum L (fun j=>R i j*x j)=sg i*(sum y.n fun k=>y.A i k*(x (2*k) - x (2*k+1)))+if y.eq i=false then sg i*x (sl i) else 0:=by
 obtain ⟨d,hd⟩:∃ d,L=2*y.n+d:=⟨L - 2*y.n,by have:=h.lt; omega⟩;rw [hd,Zu,Acs];have e1:(sum y.n fun k=>R i (2*k)*x (2*k)+R i (2*k+1)*x (2*k+1))=sg i*sum y.n fun k=>y.A i k*(x (2*k) - x (2*k+1)):=by
  rw [<- Hy];exact sum_congr fun k hk=>by rw [h.even i k hi hk,h.odd i k hi hk]; grind
 rw [e1];congr 1;cases he:y.eq i with
 | true =>
  rw [if_neg (by simp)];exact sum_zero fun k hk=>by
   rw [h.slack i _ hi aA aA,if_neg (by rw [he]; simp)]; grind
 | false =>
  rw [if_pos rfl];obtain ⟨h1,h2⟩:=h.slot i hi he;obtain ⟨q,hq⟩:∃ q,sl i=2*y.n+q:=⟨sl i - 2*y.n,aA⟩;rw [sum_congr (g:=fun k=>if k=q then sg i*x (2*y.n+k) else 0) fun k hk=>?_,sum_one (f:=fun k=>sg i*x (2*y.n+k)) aA,<- hq];rw [h.slack i _ hi aA aA];by_cases e:k=q
  ·subst e; rw [if_pos ⟨he,hq.symm⟩,if_pos rfl]
  ·rw [if_neg (fun h=>e aA),if_neg e]; grind
theorem Cols.to {y:Sys} {L:Nat} {sg:Nat->Rat} {sl:Nat->Nat} {R:Nat->Nat->Rat} {b:Nat->Rat} (h:Cols y L sg sl R b) {x:Nat->Rat} (hx:∀ j,j<L->0<=x j) (hr:∀ i,i<y.m->sum L (fun j=>R i j*x j)=b i):y.holds fun k=>x (2*k) - x (2*k+1):=by
 intro i hi;have h1:=hr i hi;have h2:=h.sq i hi;rw [h.row hi,h.right i hi] at h1;unfold Sys.val;generalize (sum y.n fun k=>y.A i k*(x (2*k) - x (2*k+1)))=z at *;cases he:y.eq i with
 | true =>
  rw [he,if_neg (by simp)] at h1;have h3:z+y.c i=0:=by
   have:sg i*(sg i*z+0)=sg i*(-(sg i*y.c i)):=by rw [h1]
   grind
  exact ⟨aL,fun _=>h3⟩
 | false =>
  rw [he,if_pos rfl] at h1;have h4:=hx (sl i) (h.slot i hi he).2;have h3:z+y.c i=- x (sl i):=by
   have:sg i*(sg i*z+sg i*x (sl i))=sg i*(-(sg i*y.c i)):=by rw [h1]
   grind
  exact ⟨aL,fun h=>aV⟩
theorem Cols.of {y:Sys} {L:Nat} {sg:Nat->Rat} {sl:Nat->Nat} {R:Nat->Nat->Rat} {b:Nat->Rat} (h:Cols y L sg sl R b) {v:Nat->Rat} (hv:y.holds v):∃ x:Nat->Rat,(∀ j,j<L->0<=x j)/\(∀ i,i<y.m->sum L (fun j=>R i j*x j)=b i)/\∀ k,k<y.n->x (2*k) - x (2*k+1)=v k:=by
 obtain ⟨x,hx⟩:∃ x:Nat->Rat,(∀ k,k<y.n->x (2*k)=if 0<=v k then v k else 0)/\(∀ k,k<y.n->x (2*k+1)=if 0<=v k then 0 else - v k)/\(∀ i,i<y.m->y.eq i=false->x (sl i)=- y.val v i)/\∀ j,j<L->0<=x j:=by
  classical
  refine ⟨fun j=>if j<2*y.n then (if j % 2=0 then (if 0<=v (j / 2) then v (j / 2) else 0) else (if 0<=v (j / 2) then 0 else - v (j / 2))) else if hq:∃ i,i<y.m/\y.eq i=false/\sl i=j then - y.val v hq.choose else 0,fun k hk=>?_,fun k hk=>?_,fun i hi he=>?_,fun j hj=>?_⟩
  ·simp only [];rw [if_pos aA,if_pos aA,show 2*k / 2=k by omega]
  ·simp only [];rw [if_pos aA,if_neg aA,show (2*k+1) / 2=k by omega]
  ·have hq:∃ i',i'<y.m/\y.eq i'=false/\sl i'=sl i:=⟨i,hi,he,rfl⟩;simp only [];rw [if_neg (by have:=(h.slot i hi he).1; omega),dif_pos hq];have:=h.apart _ _ hq.choose_spec.1 hi hq.choose_spec.2.1 he hq.choose_spec.2.2;rw [this]
  ·simp only [];split
   ·split <;> split <;> grind
   ·split
    ·rename_i hq;have:=(hv _ hq.choose_spec.1).1;grind
    ·exact iU
 obtain ⟨x1,x2,x3,x4⟩:=hx;refine ⟨x,x4,fun i hi=>?_,fun k hk=>by rw [x1 k hk,x2 k hk]; split <;> grind⟩;rw [h.row hi,h.right i hi];have e1:(sum y.n fun k=>y.A i k*(x (2*k) - x (2*k+1)))=sum y.n fun k=>y.A i k*v k:=sum_congr fun k hk=>by
  rw [x1 k hk,x2 k hk];split <;> grind
 rw [e1];obtain ⟨g1,g2⟩:=hv i hi;cases he:y.eq i with
 | true =>
  rw [if_neg (by simp)];have:=g2 he;unfold Sys.val at this;grind
 | false =>
  rw [if_pos rfl,x3 i hi he];unfold Sys.val;grind
theorem Cols.solve {y:Sys} {L:Nat} {sg:Nat->Rat} {sl:Nat->Nat} {R:Nat->Nat->Rat} {b:Nat->Rat} (h:Cols y L sg sl R b) :
  (∃ x:Nat->Rat,(∀ j,j<L->0<=x j)/\∀ i,i<y.m->sum L (fun j=>R i j*x j)=b i)↔∃ v,y.holds v :=
 ⟨fun ⟨_,hx,hr⟩=>⟨_,h.to hx hr⟩,fun ⟨_,hv⟩=>have ⟨x,h1,h2,_⟩:=h.of hv; ⟨x,h1,h2⟩⟩
end Go.Proofs.YthelkgdmgihhiaaGreat.Simp
namespace Go.Proofs.YthelkgdmgihhiaaGreat.Simp
def red (t:Tab) (f:Nat->Rat):Nat->Nat->Rat
 | 0=>f
 | k+1=>fun j=>red t f k j - red t f k (t.B k)*t.T k j
def Asg (m:Nat) (t:Tab) (f:Nat->Rat):Tab:=⟨t.T,red t f m,t.B⟩
end Go.Proofs.YthelkgdmgihhiaaGreat.Simp
namespace Go.Proofs.YthelkgdmgihhiaaGreat.Simp
def Comb (m N:Nat) (t0 t:Tab):Prop:=∀ i,i<m->∃ w:Nat->Rat,∀ j,j<N+1->t.T i j=sum m fun k=>w k*t0.T k j
theorem Zw {m p q:Nat} (hp:p<m) (hq:q<m) (x y:Rat) (f:Nat->Rat):(sum m fun k=>((if k=p then x else 0)+(if k=q then y else 0))*f k)=x*f p+y*f q:=by
 have e:∀ k,((if k=p then x else 0)+(if k=q then y else 0))*f k=(if k=p then x*f k else 0)+(if k=q then y*f k else 0):=fun k=>by
  split <;> split <;> grind
 rw [sum_congr fun k _=>e k,sum_add,sum_one (f:=fun k=>x*f k) hp,sum_one (f:=fun k=>y*f k) hq]
theorem Comb.refl {m N:Nat} {t:Tab} : Comb m N t t:=fun i hi=>⟨fun k=>if k=i then 1 else 0,fun j _=>by
 rw [sum_congr (g:=fun k=>if k=i then t.T k j else 0) fun k _=>gC,sum_one (f:=fun k=>t.T k j) hi]⟩
theorem Alg {m N:Nat} {a b:Tab} (h:Comb m N a b) (w:Nat->Rat):∃ u:Nat->Rat,∀ j,j<N+1->(sum m fun k=>w k*b.T k j)=sum m fun k=>u k*a.T k j:=by
 classical
 obtain ⟨v,hv⟩:∃ v:Nat->Nat->Rat,∀ k,k<m->∀ j,j<N+1->b.T k j=sum m fun l=>v k l*a.T l j :=
  ⟨fun k=>if hk:k<m then (h k hk).choose else fun _=>0,fun k hk j hj=>by
   simp only [dif_pos hk]; exact (h k hk).choose_spec j hj⟩
 refine ⟨fun l=>sum m fun k=>w k*v k l,fun j hj=>?_⟩;have e1:(sum m fun k=>w k*b.T k j)=sum m fun k=>sum m fun l=>w k*(v k l*a.T l j):=sum_congr fun k hk=>by
  rw [hv k hk j hj,Hy]
 rw [e1,Q4];refine sum_congr fun l _=>?_;have e2:=Hy (a.T l j) (fun k=>w k*v k l) m;rw [sum_congr (g:=fun k=>w k*(v k l*a.T l j)) fun k _=>aL] at e2;rw [e2]; grind
theorem Comb.trans {m N:Nat} {a b c:Tab} (h1:Comb m N a b) (h2:Comb m N b c):Comb m N a c:=fun i hi=>by
 obtain ⟨w,hw⟩:=h2 i hi;obtain ⟨u,hu⟩:=Alg h1 w;exact ⟨u,fun j hj=>by rw [hw j hj,hu j hj]⟩
theorem Ap0 {m N:Nat} {t:Tab} {r s:Nat} (hr:r<m):Comb m N t (piv t r s):=fun i hi=>by
 by_cases e:i=r
 ·subst e;refine ⟨fun k=>(if k=i then 1 / t.T i s else 0)+(if k=i then 0 else 0),fun j _=>?_⟩;rw [Zw hi hi];show pivT t i s i j=_;unfold pivT;rw [if_pos rfl]; grind
 ·refine ⟨fun k=>(if k=i then 1 else 0)+(if k=r then - t.T i s / t.T r s else 0),fun j _=>?_⟩;rw [Zw hi hr];show pivT t r s i j=_;unfold pivT;rw [if_neg e]; grind
theorem Aq0 {m N:Nat} {t:Tab} {r s:Nat} (hr:r<m) (hp:t.T r s≠0):Comb m N (piv t r s) t:=fun i hi=>by
 by_cases e:i=r
 ·subst e;refine ⟨fun k=>(if k=i then t.T i s else 0)+(if k=i then 0 else 0),fun j _=>?_⟩;rw [Zw hi hi];show _=_*pivT t i s i j+_*pivT t i s i j;unfold pivT;rw [if_pos rfl]; grind
 ·refine ⟨fun k=>(if k=i then 1 else 0)+(if k=r then t.T i s else 0),fun j _=>?_⟩;rw [Zw hi hr];show _=_*pivT t r s i j+_*pivT t r s r j;unfold pivT;rw [if_neg e,if_pos rfl]; grind
structure Span (m N:Nat) (t0 t:Tab):Prop where
 to:Comb m N t0 t
 of:Comb m N t t0
 cost:∃ u:Nat->Rat,∀ j,j<N+1->t.c j=t0.c j+sum m fun k=>u k*t0.T k j
theorem Span.refl {m N:Nat} {t:Tab} : Span m N t t:=⟨Comb.refl,Comb.refl,fun _=>0,fun j _=>by rw [sum_zero fun k _=>aL]; grind⟩
theorem Span.piv {m N:Nat} {t0 t:Tab} (h:Span m N t0 t) {r s:Nat} (hr:r<m) (hp:t.T r s≠0):Span m N t0 (piv t r s):=by
 refine ⟨h.to.trans (Ap0 hr),(Aq0 hr hp).trans h.of,?_⟩;obtain ⟨u,hu⟩:=h.cost;obtain ⟨w,hw⟩:=h.to r hr;refine ⟨fun k=>u k+(- t.c s / t.T r s)*w k,fun j hj=>?_⟩;show t.c j - t.c s*(t.T r j / t.T r s)=_;have e:(sum m fun k=>(u k+(- t.c s / t.T r s)*w k)*t0.T k j)=(sum m fun k=>u k*t0.T k j)+(- t.c s / t.T r s)*sum m fun k=>w k*t0.T k j:=by
  rw [<- Hy,<- sum_add];exact sum_congr fun k _=>aL
 rw [e,<- hw j hj,hu j hj]; grind
end Go.Proofs.YthelkgdmgihhiaaGreat.Simp
namespace Go.Proofs.YthelkgdmgihhiaaGreat.Simp
end Go.Proofs.YthelkgdmgihhiaaGreat.Simp
namespace Go.Proofs.YthelkgdmgihhiaaGreat
open Go Tryz
section
variable (S:List Ent) (tk:List Nat) (k:Nat)
theorem Afj (p q:Bool) (l r:List Int) (hl:l.length<=1000000) (hr:r.length<=1000000):cL prog 53 [bigA p l,bigA q r] S tk k=some (sgnZ (V p l*V q r),S,tk,k):=by
 rw [Atd _ _ _ p q l r hl hr,Asi,Asa,<- V_sg,<- V_sg]
end
end Go.Proofs.YthelkgdmgihhiaaGreat
namespace Go.Proofs.YthelkgdmgihhiaaGreat
open Go Tryz
set_option maxRecDepth 100000
theorem P2 {l:List Int} {i:Nat} {x:Int} (h:i<l.length):(l.set i x).drop i=x :: l.drop (i+1):=by
 rw [Ax (Th h)];congr 1;rw [List.drop_set]; simp
theorem Acg (n:Nat):okD (Cg n 0):=fun d hd=>by
 exact Ya3r
theorem Aub {r:Int} (h0:0<=r) (h1:r<10000):okD [r]:=fun d hd=>by simp at hd; omega
theorem Ari {r:Int} (h0:0<=r) (h1:r<10000):Dj [r]=dig r.toNat:=by
 rw [Dz (Aub h0 h1)]; simp [val]
structure Short (A:Nat) (b:Int) (m:Nat) (r:Int) (out:List Int):Prop where
 len:out.length=(dig A).length
 ok:okD out
 r0:0<=r/\r<b
 eqv:val ((dig A).drop m)=val (out.drop m)*b+r
theorem Short.start {A:Nat} {b:Int} (h:0<b):Short A b (dig A).length 0 (Cg (dig A).length 0):=by
 refine ⟨by simp,Acg _,aA,?_⟩;exact Ya43
theorem Short.step {A:Nat} {b:Int} {m:Nat} {r x:Int} {out:List Int} (h:Short A b m r out) (hm:m≠0) (rg:m<=(dig A).length) (hx:nth (dig A) (m - 1)=some x) :
  Short A b (m - 1) ((r*10000+x).tmod b) (out.set (m - 1) ((r*10000+x).tdiv b))/\0<=(r*10000+x).tdiv b/\(r*10000+x).tdiv b<10000/\0<=(r*10000+x).tmod b/\(r*10000+x).tmod b<b:=by
 have hr:=h.r0;have hxk:=Bs (A5 A) hx;have hn:0<=r*10000+x:=aA
 have e1:(r*10000+x).tdiv b=(r*10000+x) / b:=Cz hn;have e2:(r*10000+x).tmod b=(r*10000+x) % b:=Gm hn;have m0:=Int.emod_nonneg (r*10000+x) (show b≠0 by omega);have m1:=Int.emod_lt_of_pos (r*10000+x) (show 0<b by omega);have q0:0<=(r*10000+x) / b:=Int.ediv_nonneg hn aA;have q1:(r*10000+x) / b<10000:=Int.ediv_lt_of_lt_mul aA aA;have dm:m - 1+1=m:=aA
 have hlen:m - 1<out.length:=by have:=h.len; omega
 rw [e1,e2];refine ⟨⟨bS,Pd h.ok q0 q1,⟨m0,m1⟩,?_⟩,q0,q1,m0,m1⟩;have hv:=h.eqv;rw [Ax hx,P2 hlen,val,val,dm,hv];exact Ya09
theorem Ar5 {A B Q R:Int} (h:A=Q*B+R) (h0:0<=R) (h1:R<B):A / B=Q/\A % B=R:=by
 exact Ya0l
theorem Alm {A B:Nat} {Q R:Int} (h:(A:Int)=Q*B+R) (h0:0<=R) (h1:R<B):Q=((A / B:Nat):Int)/\R=((A % B:Nat):Int):=by
 obtain ⟨e1,e2⟩:=Ar5 h h0 h1;rw [<- e1,<- e2];exact Ya4c
theorem Short.done {A B:Nat} {r:Int} {out:List Int} (h:Short A B 0 r out):Dj out=dig (A / B)/\r.toNat=A % B:=by
 have hv:=h.eqv;rw [Fz,Fz,Bq] at hv;obtain ⟨e1,e2⟩:=Alm hv h.r0.1 h.r0.2;rw [Dz h.ok,e1];exact ⟨by congr 1,aA⟩
section
variable (S:List Ent) (tk:List Nat) (k:Nat)
theorem Ak0 (A B:Nat) (ha:(dig A).length<=100000) (hb0:0<B) (hb1:B<10000):cL prog 128 [digA (dig A),.int (B:Nat)] S tk k=some (.tup [digA (dig (A / B)),digA (dig (A % B))],S,tk,k):=by
 refine opP func128 ntmps128 (hp3:=rfl) ?_;have mc:(A6 prog 58).bind (Ey prog)=some 8:=aK
 have gd:=Nx (P:=prog) (t:=58) (n:=(dig A).length) aT aT mc aA;have d3:=E2 (n:=(dig A).length) aA;have ai:=Short.start (A:=A) (b:=(B:Int)) aA;simp (maxSteps:=10^6)+contextual(disch:=try exact dqd)only[ev0,simprocAttr,Ca,Bo,Cb,results128,digA,gd,d3];refine loop1 (P:=prog) (fun x st=>st.T.length=40/\(x.1<=(dig A).length)/\(Short A B x.1 x.2.1 x.2.2)/\getT st.T 0=digA (dig A)/\getT st.T 1=.int (B:Nat)/\getT st.T 6=.sref 0 0 0 (dig A).length 1/\getT st.T 7=.int x.2.1/\getT st.T 8=.int ((x.1:Int) - 1)/\st.S=[⟨0,x.2.2.map numC⟩]) (fun x=>x.1) (fun x=>.tup [digA (dig (A / B)),digA (dig (A % B))]) ((dig A).length,0,Cg (dig A).length 0) ?_ ?_;case refine_2=>exact ⟨rfl,Ce _,ai,rfl,rfl,rfl,rfl,rfl,rfl⟩
 rintro ⟨m,r,out⟩ ⟨T,S',tk',n'⟩ ⟨hl,hm,hp,e0,e1,e6,e7,e8,eS⟩ IH;simp only at hm hp e0 e1 e6 e7 e8 eS;subst eS;obtain ⟨g,hg,hT⟩:=Ap hl;rw [hg] at e0 e1 e6 e7 e8;subst hT;clear hg hl;have hlen:=hp.len;by_cases h0:m=0
 ·have d2:decide ((m:Int) - 1 >= 0)=false:=aC
  subst h0;obtain ⟨q1,q2⟩:=hp.done;have cg:=hp.r0;have hT:=fun tk k=>Gc [⟨0,out.map numC⟩] tk k out 0 0 aA rfl;rw [hlen] at hT;have ah:=fun tk k=>Apu [⟨0,out.map numC⟩] tk k [r] .tight (by simp);rw [Ari cg.1 aA,q2] at ah;have jo:=Td (m:=0) (id:=0) (ep:=0) (S:=[⟨0,out.map numC⟩]) (Ce _) rfl (G9 out);rw [<- Dl,q1] at jo;rw [q1] at hT;simp only [Cm,Cp,digC,digA] at ah;simp (maxSteps:=10^6)+contextual(disch:=try exact dqd)only[ev0,simprocAttr,Ca,Bo,Cb,results128,digA,e0,e1,e6,e7,e8,d2,hT,ah,jo]
 ·have d2:decide ((m:Int) - 1 >= 0)=true:=aC
  have hi:(m:Int) - 1=((m - 1:Nat):Int):=aA
  obtain ⟨x,hx⟩:=Ab (show m - 1<(dig A).length by omega);have hx':=Bd hx;have hxk:=Bs (A5 A) hx;obtain ⟨o,ho⟩:=Ab (show m - 1<out.length by omega);obtain ⟨hq,g1,g2,g3,g4⟩:=hp.step h0 hm hx;have cg:=hp.r0;have hpw:=E2 (n:=m - 1) aA;have eo:¬ ((B:Int)=0):=aA
  have hw1:B8.wrap (r*10000)=r*10000:=Aa aD;have hw2:B8.wrap (r*10000+x)=r*10000+x:=Aa aD;have hw3:B8.wrap ((r*10000+x).tdiv B)=(r*10000+x).tdiv B:=Aa aD;have hw4:B8.wrap ((r*10000+x).tmod B)=(r*10000+x).tmod B:=Aa aD;have c9:=Dn (v:=(r*10000+x).tdiv B) ho;have dd:m - 1<(dig A).length:=aA
  rw [hi] at e8 d2;simp (maxSteps:=10^6)+contextual(disch:=try exact dqd)only[ev0,simprocAttr,Ca,Bo,Cb,results128,digA,e0,e1,e6,e7,e8,d2,hx',hpw,eo,hw1,hw2,hw3,hw4,c9,dd,Cw];exact IH (m - 1,(r*10000+x).tmod B,out.set (m - 1) ((r*10000+x).tdiv B)) _ aF ⟨rfl,aE,hq,aB,aB,aB,aB,aB,aB⟩
end
end Go.Proofs.YthelkgdmgihhiaaGreat
namespace Go.Proofs.YthelkgdmgihhiaaGreat
open Go
def padD (v m:Nat):List Int:=padL (dig v) m
theorem Nh {v m:Nat} (h:(dig v).length<=m):(padD v m).length=m:=Ze h
theorem T9 (v m:Nat):val (padD v m)=v:=by rw [padD,Zf,Bq]
theorem T7 (v m:Nat):okD (padD v m):=fun d hd=>by
 rcases Cu.1 hd with hd|hd
 ·exact A5 v d hd
 ·exact Ya3r
theorem Abb:∀ {l r:List Int},okD l->okD r->l.length=r.length->val l=val r->l=r
 | [],[],_,_,_,_=>rfl
 | d :: l,e :: r,h1,h2,hl,hv=>by
  have g1:=h1 d (by simp);have g2:=h2 e (by simp);simp only [val] at hv;have hde:d=e:=aA
  have ih:=Abb (l:=l) (r:=r) (fun x hx=>h1 x bP) (fun x hx=>h2 x bP) cH aA;rw [hde,ih]
 | [],_ :: _,_,_,hl,_=>dZ
 | _ :: _,[],_,_,hl,_=>dZ
theorem Zh (n:Nat):((10000 ^ n:Nat):Int)=(10000:Int) ^ n:=Int.natCast_pow ..
theorem Awu {a n:Nat} (h:(a:Int)<10000 ^ n):a<10000 ^ n:=by rw [<- Zh] at h; omega
theorem Aw5 {a n:Nat} (h:a<10000 ^ n):(a:Int)<10000 ^ n:=by rw [<- Zh]; omega
theorem Att {l:List Int} {v:Nat} (h:okD l) (hv:val l=v):l=padD v l.length:=by
 have hl:(dig v).length<=l.length:=by
  refine A9.2 ?_;have:=Ac2 h;rw [hv] at this;exact Awu this
 exact Abb h (T7 _ _) (Nh hl).symm (by rw [hv,T9])
theorem Aqw {l:List Int} (h:okD l) (i:Nat):okD (l.take i):=fun d hd=>h d (iV hd)
theorem Ac3 {l:List Int} {i:Nat} (h:i<=l.length):val l=val (l.take i)+10000 ^ i*val (l.drop i):=by
 have e:=Ew (l.take i) (l.drop i);rw [Ix] at e;rw [e];have:(l.take i).length=i:=aC
 rw [this]
theorem Wi {l:List Int} {i:Nat} (h:okD (l.take i)) (hi:i<=l.length):0<=val (l.take i)/\val (l.take i)<10000 ^ i:=by
 have h1:=Ac2 h;have:(l.take i).length=i:=aC
 rw [this] at h1;exact ⟨El h,h1⟩
theorem Ac1 {l:List Int} (h:okD l) {i:Nat} (hi:i<=l.length):val (l.drop i)=val l / 10000 ^ i:=by
 obtain ⟨h1,h2⟩:=Wi (Aqw h i) hi;have h3:=Ac3 hi;have hp:=Jh i;generalize (10000:Int) ^ i=P at *;have:=(Ar5 (A:=val l) (B:=P) (Q:=val (l.drop i)) (R:=val (l.take i)) (by rw [h3,Fy P]; omega) h1 h2).1;exact this.symm
theorem Vx {v m j:Nat} (h:(dig v).length<=m) (hj:j<m):nth (padD v m) j=some ((v / 10000 ^ j % 10000:Nat):Int):=by
 obtain ⟨x,hx⟩:=Ab (show j<(padD v m).length by rw [Nh h]; exact hj);have hk:=T7 v m;have h1:=Ac1 hk (i:=j) (by rw [Nh h]; omega);rw [Ax hx,val,T9] at h1;have hxk:=Bs hk hx;rw [hx]; congr 1;have e:((v / 10000 ^ j:Nat):Int)=(v:Int) / 10000 ^ j:=by simp
 omega
theorem Ar4 {v j:Nat} (hj:j<(dig v).length):nth (dig v) j=some ((v / 10000 ^ j % 10000:Nat):Int):=by
 have:=Vx (v:=v) (m:=(dig v).length) (Ce _) hj;have e:padD v (dig v).length=dig v:=by simp [padD,padL]
 rwa [e] at this
theorem N4 (v i j:Nat):v / 10000 ^ (i+j)=v / 10000 ^ i / 10000 ^ j:=by rw [Nat.pow_add,Nat.div_div_eq_div_mul]
theorem Aqh {R B W:Nat} (hw:0<W) (hb:0<B / W):R / B<=(R / W) / (B / W):=by
 rw [O1 hb,O1 hw,Nat.mul_assoc];exact Fh (Oy _ (Nat.div_mul_le_self B W)) (Nat.div_mul_le_self R B)
structure Off (B m i k:Nat) (q c E:Int) (o:List Int):Prop where
 len:o.length=m
 ok:okD o
 c0:0<=c/\c<=9999
 high:∀ j x,i+(dig B).length<j->nth o j=some x->x=0
 eqv:val o - 10000 ^ (i+k)*(c+q*val ((dig B).drop k))=E
theorem Off.step {B m i k:Nat} {q c E x d y:Int} {o:List Int} (h:Off B m i k q c E o) (hq:0<=q/\q<=9999) (hx:nth o (i+k)=some x) (hd:nth (dig B) k=some d) (hy:y=x - q*d - c) :
  -99990000<=y/\y<=9999/\(y<0->(0 - y+10000 - 1).tdiv 10000<=9999/\0<=(0 - y+10000 - 1).tdiv 10000/\0<=y+(0 - y+10000 - 1).tdiv 10000*10000/\y+(0 - y+10000 - 1).tdiv 10000*10000<=9999/\Off B m i (k+1) q ((0 - y+10000 - 1).tdiv 10000) E (o.set (i+k) (y+(0 - y+10000 - 1).tdiv 10000*10000)))
   /\ (¬ y<0->Off B m i (k+1) q 0 E (o.set (i+k) y)):=by
 have lw:=Bs (A5 B) hd;have hxk:=Bs h.ok hx;have hk:=Bl hd;have hc:=h.c0;have p0:0<=q*d:=Ox hq.1 lw.1;have p1:q*d<=9999*9999:=Int.mul_le_mul hq.2 aA lw.1 aA;have hv:=h.eqv;rw [Ax hd,val,I1 q,Int.mul_left_comm] at hv;have main:∀ c' z:Int,0<=c'->c'<=9999->0<=z->z<10000->z=y+c'*10000->Off B m i (k+1) q c' E (o.set (i+k) z):=fun c' z a1 a2 a3 a4 a5=>by
  refine ⟨bS,Pd h.ok a3 a4,⟨a1,a2⟩,fun j u hj hu=>?_,?_⟩
  ·exact Ya0k
  ·rw [Hz hx,<- hv,<- O4,Nw,Fy (z - x)];generalize (10000:Int) ^ (i+k)=P at *;generalize val ((dig B).drop (k+1))=D at *;have e1:P*10000*(c'+q*D)=P*(10000*(c'+q*D)):=H9 ..;have e2:P*(z - x)=P*(10000*(c'+q*D)) - P*(c+(q*d+10000*(q*D))):=by
    rw [<- iS]; congr 1;generalize q*D=u at *;generalize q*d=t at *;omega
   omega
 refine ⟨aA,aA,fun hn=>?_,fun hn=>main 0 y aA aA aA aA aA⟩;have e:(0 - y+10000 - 1).tdiv 10000=(0 - y+10000 - 1) / 10000:=Cz aA;rw [e];exact ⟨aA,aA,aA,aA,main _ _ aA aA aA aA rfl⟩
structure Mid (v B m i:Nat) (q:Int) (o:List Int):Prop where
 len:o.length=m
 ok:∀ j x,j≠i+(dig B).length->nth o j=some x->0<=x/\x<10000
 top:∀ x,nth o (i+(dig B).length)=some x->-10000<=x/\x<=9999
 high:∀ j x,i+(dig B).length<j->nth o j=some x->x=0
 q0:((v / 10000 ^ i / B:Nat):Int)<=q/\q<=9999
 eqv:val o=v - 10000 ^ i*(q*B)
theorem Off.start {v B m i:Nat} {q:Int} (hv:(dig v).length<=m) (hR:v / 10000 ^ i<10000*B):Off B m i 0 q 0 (v - 10000 ^ i*(q*B)) (padD v m):=by
 refine ⟨Nh hv,T7 v m,aA,fun j x hj hx=>?_,?_⟩
 ·have hjm:=Bl hx;rw [Nh hv] at hjm;rw [Vx hv hjm] at hx;simp only [Bg] at hx;subst hx;have hB:=(A9 (n:=B) (k:=(dig B).length)).1 (Ce _);have e:v / 10000 ^ j=0:=by
   have e1:j=i+((dig B).length+1)+(j - (i+(dig B).length+1)):=aA
   rw [e1,N4,N4];have:v / 10000 ^ i / 10000 ^ ((dig B).length+1)=0:=jA (by rw [O5]; omega);rw [this,Nat.zero_div]
  rw [e]; rfl
 ·rw [T9,Fz,Bq,Ie]; simp
theorem Off.done {v B m i:Nat} {q c x:Int} {o:List Int} (h:Off B m i (dig B).length q c (v - 10000 ^ i*(q*B)) o) (hx:nth o (i+(dig B).length)=some x) (hq:((v / 10000 ^ i / B:Nat):Int)<=q/\q<=9999):Mid v B m i q (o.set (i+(dig B).length) (x - c)):=by
 have hxk:=Bs h.ok hx;have hc:=h.c0;refine ⟨bS,fun j u hj hu=>?_,fun u hu=>?_,fun j u hj hu=>?_,hq,?_⟩
 ·rcases B5 hu with ⟨e,-⟩|⟨-,hu⟩
  ·omega
  ·exact Bs h.ok hu
 ·exact Ya4d
 ·exact Ya0k
 ·have hv:=h.eqv;rw [Fp] at hv;rw [Hz hx,<- hv];simp only [val,Si,Sv];have e:x - c - x=-c:=aA
  rw [e,Rp,Fy c]; omega
theorem Mid.val_eq {v B m i:Nat} {q x:Int} {o:List Int} (h:Mid v B m i q o) (hx:nth o (i+(dig B).length)=some x):∃ P,val o=P+10000 ^ (i+(dig B).length)*x/\0<=P/\P<10000 ^ (i+(dig B).length):=by
 have hl:=Bl hx;have hk:okD (o.take (i+(dig B).length)):=Vu fun j y hy=>by
  have hj:=Bl hy;have fu:j<i+(dig B).length:=by simp at hj; omega
  rw [Af,Ij fu,<- Af] at hy;exact h.ok j y aA hy
 obtain ⟨h1,h2⟩:=Wi hk aA;refine ⟨_,?_,h1,h2⟩;rw [Ac3 (l:=o) (i:=i+(dig B).length) aA,Ax hx,val];have hz:∀ l:List Int,(∀ d ∈ l,d=0)->val l=0:=fun l hl=>by
  induction l with
  | nil=>rfl
  | cons d l ih=>rw [val,ih fun d hd=>hl d (by simp [hd]),hl d (by simp)]; rfl
 rw [hz (o.drop (i+(dig B).length+1)) fun d hd=>by
  obtain ⟨j,hj⟩:=List.mem_iff_getElem?.1 hd;rw [iD] at hj;exact h.high (i+(dig B).length+1+j) d aA (by rw [Af]; exact hj)]
 simp
theorem Aom (v i:Nat):∃ L:Nat,(v:Int)=10000 ^ i*((v / 10000 ^ i:Nat):Int)+L/\L<10000 ^ i:=by
 refine ⟨v % 10000 ^ i,?_,I7 _ (jR aJ)⟩;have h:=Ot v (10000 ^ i);have:((10000 ^ i*(v / 10000 ^ i)+v % 10000 ^ i:Nat):Int)=v:=by rw [h]
 rw [<- this]; simp
theorem Mid.neg {v B m i:Nat} {q x:Int} {o:List Int} (h:Mid v B m i q o) (hB:0<B) (hx:nth o (i+(dig B).length)=some x) (hn:x<0):((v / 10000 ^ i / B:Nat):Int)<=q - 1:=by
 obtain ⟨P,hP,h0,h1⟩:=h.val_eq hx;obtain ⟨L,hL,tn⟩:=Aom v i;have hv:=h.eqv;have hp:=Jh i;have hpp:=Jh (i+(dig B).length);have hneg:val o<0:=by
  have:(10000:Int) ^ (i+(dig B).length)*x<=10000 ^ (i+(dig B).length)*(-1):=Int.mul_le_mul_of_nonneg_left aA aA;omega
 have hlt:10000 ^ i*(((v / 10000 ^ i:Nat):Int) - q*B)<0:=by rw [iS]; omega
 have cj:((v / 10000 ^ i:Nat):Int) - q*B<0:=by
  rcases Int.lt_or_le (((v / 10000 ^ i:Nat):Int) - q*B) 0 with h|h
  ·exact h
  ·have:=Ox (Int.le_of_lt hp) h; omega
 have:((v / 10000 ^ i / B:Nat):Int)<q:=by
  have e:((v / 10000 ^ i / B:Nat):Int)=((v / 10000 ^ i:Nat):Int) / (B:Int):=by simp
  rw [e]; exact Int.ediv_lt_of_lt_mul aA aA
 omega
theorem Mid.done {v B m i:Nat} {q x:Int} {o:List Int} (h:Mid v B m i q o) (hB:0<B) (hx:nth o (i+(dig B).length)=some x) (hn:¬ x<0):q=((v / 10000 ^ i / B:Nat):Int)/\o=padD (v - 10000 ^ i*(v / 10000 ^ i / B*B)) m:=by
 obtain ⟨P,hP,h0,h1⟩:=h.val_eq hx;obtain ⟨L,hL,tn⟩:=Aom v i;have hv:=h.eqv;have hp:=Jh i;have hpp:=Jh (i+(dig B).length);have hpos:0<=val o:=by
  have:0<=(10000:Int) ^ (i+(dig B).length)*x:=Ox aA aA;omega
 have hL1':(L:Int)<10000 ^ i:=Aw5 tn;have xq : -(10000 ^ i)<10000 ^ i*(((v / 10000 ^ i:Nat):Int) - q*B):=by rw [iS]; omega
 have lh:0<=((v / 10000 ^ i:Nat):Int) - q*B:=by
  rcases Int.lt_or_le (((v / 10000 ^ i:Nat):Int) - q*B) 0 with h|h
  ·have:(10000:Int) ^ i*(((v / 10000 ^ i:Nat):Int) - q*B)<=10000 ^ i*(-1):=Int.mul_le_mul_of_nonneg_left aA aA;omega
  ·exact h
 have hqe:q=((v / 10000 ^ i / B:Nat):Int):=by
  have e:((v / 10000 ^ i / B:Nat):Int)=((v / 10000 ^ i:Nat):Int) / (B:Int):=by simp
  have h1:=h.q0.1;have h2:q<=((v / 10000 ^ i:Nat):Int) / (B:Int):=by rw [Int.le_ediv_iff_mul_le aA]; omega
  omega
 refine ⟨hqe,?_⟩;have hk:okD o:=Vu fun j y hy=>by
  by_cases e:j=i+(dig B).length
  ·subst e; rw [hx] at hy; simp only [Bg] at hy; have:=h.top x hx; omega
  ·exact h.ok j y e hy
 have hle:10000 ^ i*(v / 10000 ^ i / B*B)<=v:=by
  refine Fh (Oy _ (Nat.div_mul_le_self _ _)) (Nat.mul_div_le _ _)
 have kr:val o=((v - 10000 ^ i*(v / 10000 ^ i / B*B):Nat):Int):=by
  rw [hv,hqe,Int.ofNat_sub hle]; simp
 have:=Att hk kr;rw [h.len] at this;exact this
structure Back (v B m i k:Nat) (q c:Int) (o:List Int):Prop where
 len:o.length=m
 ok:∀ j x,j≠i+(dig B).length->nth o j=some x->0<=x/\x<10000
 top:∀ x,nth o (i+(dig B).length)=some x->-10000<=x/\x<0
 high:∀ j x,i+(dig B).length<j->nth o j=some x->x=0
 c0:0<=c/\c<=1
 q0:((v / 10000 ^ i / B:Nat):Int)<=q/\q<=9999
 eqv:val o+10000 ^ (i+k)*(c+val ((dig B).drop k))=v - 10000 ^ i*(q*B)
theorem Mid.back {v B m i:Nat} {q x:Int} {o:List Int} (h:Mid v B m i q o) (hB:0<B) (hx:nth o (i+(dig B).length)=some x) (hn:x<0):Back v B m i 0 (q - 1) 0 o:=by
 have h1:=h.neg hB hx hn;refine ⟨h.len,h.ok,fun y hy=>?_,h.high,aA,⟨h1,by have:=h.q0; omega⟩,?_⟩
 ·have:=h.top y hy; rw [hx] at hy;exact Ya1v
 ·rw [h.eqv,Fz,Bq,Ie,Int.sub_mul,Int.one_mul,iS,Int.zero_add]; omega
theorem Back.step {v B m i k:Nat} {q c x d y:Int} {o:List Int} (h:Back v B m i k q c o) (hx:nth o (i+k)=some x) (hd:nth (dig B) k=some d) (hy:y=x+d+c) :
  Back v B m i (k+1) q (y.tdiv 10000) (o.set (i+k) (y.tmod 10000))/\0<=y/\y<=19999/\0<=x/\x<10000:=by
 have lw:=Bs (A5 B) hd;have hk:=Bl hd;have hxk:=h.ok _ x aA hx;have hc:=h.c0;have e1:y.tdiv 10000=y / 10000:=Cz aA;have e2:y.tmod 10000=y % 10000:=Gm aA;refine ⟨⟨bS,fun j u hj hu=>?_,fun u hu=>?_,fun j u hj hu=>?_,aA,h.q0,?_⟩,aA,aA,hxk.1,hxk.2⟩
 ·rcases B5 hu with ⟨-,e⟩|⟨-,hu⟩
  ·omega
  ·exact h.ok j u hj hu
 ·rcases B5 hu with ⟨e,-⟩|⟨-,hu⟩
  ·omega
  ·exact h.top u hu
 ·exact Ya0k
 ·have hv:=h.eqv;rw [Ax hd,val] at hv;rw [Hz hx,<- hv,<- O4,Nw,Fy (y.tmod 10000 - x)];generalize (10000:Int) ^ (i+k)=P at *;generalize val ((dig B).drop (k+1))=D at *;rw [H9,iK,<- I1];congr 2;omega
theorem Back.done {v B m i:Nat} {q c x:Int} {o:List Int} (h:Back v B m i (dig B).length q c o) (hx:nth o (i+(dig B).length)=some x):Mid v B m i q (o.set (i+(dig B).length) (x+c)):=by
 have hxk:=h.top x hx;have hc:=h.c0;refine ⟨bS,fun j u hj hu=>?_,fun u hu=>?_,fun j u hj hu=>?_,h.q0,?_⟩
 ·rcases B5 hu with ⟨e,-⟩|⟨-,hu⟩
  ·omega
  ·exact h.ok j u hj hu
 ·exact Ya4d
 ·exact Ya0k
 ·have hv:=h.eqv;rw [Fp] at hv;rw [Hz hx,<- hv];simp only [val,Sv];have e:x+c - x=c:=aA
  rw [e,Fy c]
end Go.Proofs.YthelkgdmgihhiaaGreat
namespace Go.Proofs.YthelkgdmgihhiaaGreat
open Go Tryz
set_option maxHeartbeats 1000000
set_option maxRecDepth 100000
theorem guess {v B i:Nat} (hB2:2<=(dig B).length) (hR:v / 10000 ^ i<10000*B):∃ T U:Nat,
  v / 10000 ^ (i+(dig B).length) % 10000=T / 100000000 % 10000/\v / 10000 ^ (i+(dig B).length - 1) % 10000=T / 10000 % 10000/\v / 10000 ^ (i+(dig B).length - 2) % 10000=T % 10000/\T<1000000000000 /\
  B / 10000 ^ ((dig B).length - 1) % 10000=U / 10000 % 10000/\B / 10000 ^ ((dig B).length - 2) % 10000=U % 10000/\U<100000000/\10000<=U/\v / 10000 ^ i / B<=T / U/\v / 10000 ^ i / B<=9999:=by
 obtain ⟨m,hm⟩:∃ m,(dig B).length=m+2:=⟨(dig B).length - 2,aA⟩;have hB:=(A9 (n:=B) (k:=m+2)).1 aA;have hB1:10000 ^ (m+1)<=B:=by
  rcases Ia B (10000 ^ (m+1)) with h|h
  ·have:=(A9 (n:=B) (k:=m+1)).2 h; omega
  ·exact h
 rw [hm];have hW:0<10000 ^ m:=jR aJ;have e0:i+(m+2)=(i+m)+2:=aA
 have e1:i+(m+2) - 1=(i+m)+1:=aA
 have e2:i+(m+2) - 2=i+m:=aA
 have e3:m+2 - 1=m+1:=aA
 have e4:m+2 - 2=m:=aA
 rw [e2,e1,e0,e3,e4,N4 v (i+m) 2,N4 v (i+m) 1,N4 B m 1];refine ⟨v / 10000 ^ (i+m),B / 10000 ^ m,rfl,rfl,rfl,?_,rfl,rfl,?_,?_,?_,?_⟩
 ·rw [N4,Ih hW];rw [Nat.pow_add] at hB;generalize 10000 ^ m=W at *;have:(10000:Nat) ^ 2=100000000:=aJ
  rw [this] at hB;omega
 ·rw [Ih hW];rw [Nat.pow_add] at hB;have:(10000:Nat) ^ 2=100000000:=aJ
  rw [this] at hB;omega
 ·rw [O1 hW];rw [Nat.pow_add] at hB1;omega
 ·rw [N4];refine Aqh hW ?_;rw [Nat.div_pos_iff];refine ⟨hW,?_⟩;rw [Nat.pow_add] at hB1;omega
 ·have:v / 10000 ^ i / B<10000:=by
   rw [Ih aA]; omega
  omega
section
variable (tk:List Nat) (k:Nat)
theorem Aky (v B m i:Nat) (out:List Int) (hv:(dig v).length<=m) (hm:m<=100001) (hB2:2<=(dig B).length) (tm:i+(dig B).length<m) (hR:v / 10000 ^ i<10000*B) :
  cL prog 129 [.sref 0 0 0 m 1,digA (dig B),.int (i:Nat)] [⟨0,(padD v m).map numC⟩,⟨1,out.map numC⟩] tk k=some (.int ((v / 10000 ^ i / B:Nat):Int),[⟨0,(padD (v - 10000 ^ i*(v / 10000 ^ i / B*B)) m).map numC⟩,⟨1,out.map numC⟩],tk,k):=by
 have hB0:0<B:=by
  rcases iF B with h|h
  ·subst h; simp [Bp] at hB2
  ·exact h
 obtain ⟨T,U,t2,t1,t0,hT,u1,u0,hU,wa,hg,hq9⟩:=guess hB2 hR;have n2:=D6 (Vx hv tm);have n1:=D6 (Vx hv (j:=i+(dig B).length - 1) aA);have n0:=D6 (Vx hv (j:=i+(dig B).length - 2) aA);have b1:=Bd (Ar4 (v:=B) (j:=(dig B).length - 1) aA);have b0:=Bd (Ar4 (v:=B) (j:=(dig B).length - 2) aA);rw [t2] at n2;rw [t1] at n1;rw [t0] at n0;rw [u1] at b1;rw [u0] at b0;have kq:i+(dig B).length<m:=tm;have a3u:i+(dig B).length - 1<m:=aA
 have a3v:i+(dig B).length - 2<m:=aA
 have wn:B8.wrap ((i:Int)+((dig B).length:Int))=((i+(dig B).length:Nat):Int):=aP
 have wn1:B8.wrap (((i+(dig B).length:Nat):Int) - 1)=((i+(dig B).length - 1:Nat):Int):=aP
 have wn2:B8.wrap (((i+(dig B).length:Nat):Int) - 2)=((i+(dig B).length - 2:Nat):Int):=aP
 have wb1:B8.wrap (((dig B).length:Int) - 1)=(((dig B).length - 1:Nat):Int):=aP
 have wb2:B8.wrap (((dig B).length:Int) - 2)=(((dig B).length - 2:Nat):Int):=aP
 have g1:B8.wrap (((T / 100000000 % 10000:Nat):Int)*10000)=((T / 100000000 % 10000:Nat):Int)*10000:=Aa aD;have g2:B8.wrap (((T / 100000000 % 10000:Nat):Int)*10000+((T / 10000 % 10000:Nat):Int))=((T / 100000000 % 10000:Nat):Int)*10000+((T / 10000 % 10000:Nat):Int):=Aa aD;have g3:B8.wrap ((((T / 100000000 % 10000:Nat):Int)*10000+((T / 10000 % 10000:Nat):Int))*10000)=(((T / 100000000 % 10000:Nat):Int)*10000+((T / 10000 % 10000:Nat):Int))*10000:=Aa aD;have g4:B8.wrap ((((T / 100000000 % 10000:Nat):Int)*10000+((T / 10000 % 10000:Nat):Int))*10000+((T % 10000:Nat):Int))=(T:Int):=aP
 have g5:B8.wrap (((U / 10000 % 10000:Nat):Int)*10000)=((U / 10000 % 10000:Nat):Int)*10000:=Aa aD;have g6:B8.wrap (((U / 10000 % 10000:Nat):Int)*10000+((U % 10000:Nat):Int))=(U:Int):=aP
 have hz:¬ ((U:Int)=0):=aA
 have hTU:T / U<=T:=Ou _ _;obtain ⟨G,hG⟩:∃ G:Nat,G=T / U:=⟨_,rfl⟩;have a3w:(0:Int)<=((v / 10000 ^ i / B:Nat):Int):=Od _;have g7:B8.wrap ((T:Int).tdiv U)=(G:Int):=by
  rw [Cz (Od _),<- Int.natCast_ediv,<- hG];rw [<- hG] at hTU;exact Aa aD
 rw [<- hG] at hg;obtain ⟨q,hq⟩:∃ q:Int,(if (9999:Int)<(G:Int) then (9999:Int) else (G:Int))=q:=⟨_,rfl⟩;have pq:((v / 10000 ^ i / B:Nat):Int)<=q/\q<=9999:=by
  have hg':((v / 10000 ^ i / B:Nat):Int)<=(G:Int):=Int.ofNat_le.2 hg;have hq9':((v / 10000 ^ i / B:Nat):Int)<=9999:=Int.ofNat_le.2 hq9;rw [<- hq]; generalize ((v / 10000 ^ i / B:Nat):Int)=t at *;exact Ya3v
 have b9:0<=q:=Int.le_trans a3w pq.1;have ai:=Off.start (q:=q) hv hR;refine opS func129 ntmps129 ?_;simp (maxSteps:=10^6)+contextual(disch:=try exact dqd)only[ev0,simprocAttr,Ca,Bo,Cb,results129,digA,n2,n1,n0,b1,b0,kq,a3u,a3v,wn,wn1,wn2,wb1,wb2,g1,g2,g3,g4,g5,g6,g7,hz,hq,Cw];clear hq g1 g2 g3 g4 g5 g6 g7 n2 n1 n0 b1 b0 wn1 wn2 wb1 wb2 t2 t1 t0 u1 u0 hg;refine Vq (P:=prog) (fun x st=>st.T.length=151/\(x.1<=(dig B).length)/\(Off B m i x.1 q x.2.1 (v - 10000 ^ i*(q*B)) x.2.2)/\getT st.T 0=.sref 0 0 0 m 1/\getT st.T 1=digA (dig B)/\getT st.T 2=.int (i:Nat)/\getT st.T 7=.int (dig B).length/\getT st.T 9=.int q/\getT st.T 10=.int x.2.1/\getT st.T 59=digA (dig B)/\getT st.T 60=.int (dig B).length/\getT st.T 61=.int (x.1:Nat)/\st.S=[⟨0,x.2.2.map numC⟩,⟨1,out.map numC⟩]/\st.tk=tk/\st.n=k) (fun x=>(dig B).length - x.1) (fun x=>(.int ((v / 10000 ^ i / B:Nat):Int),[⟨0,(padD (v - 10000 ^ i*(v / 10000 ^ i / B*B)) m).map numC⟩,⟨1,out.map numC⟩],tk,k)) (0,0,padD v m) ?_ ?_;case refine_2=>exact ⟨rfl,Ci _,ai,rfl,rfl,rfl,rfl,rfl,rfl,rfl,rfl,rfl,rfl,rfl,rfl⟩
 rintro ⟨kk,c,o⟩ ⟨T,S',tk',n'⟩ ⟨hl,hk,hp,e0,e1,e2,e7,e9,e10,e59,e60,e61,eS,eT,eN⟩ IH;simp only at hk hp e0 e1 e2 e7 e9 e10 e59 e60 e61 eS eT eN;subst eS eT eN;obtain ⟨g,hg,hT⟩:=Ap hl;rw [hg] at e0 e1 e2 e7 e9 e10 e59 e60 e61;subst hT;clear hg hl;have hlen:=hp.len;have hc:=hp.c0;by_cases hlt:kk<(dig B).length
 ·have d2:decide ((kk:Int)<((dig B).length:Int))=true:=aI
  obtain ⟨d,hd⟩:=Ab hlt;have d8:=Bd hd;have lw:=Bs (A5 B) hd;have bg:=Aw (i:=kk) aA;have v7:B8.wrap ((i:Int)+(kk:Int))=((i+kk:Nat):Int):=aP
  have dd:i+kk<m:=aA
  obtain ⟨x,hx⟩:=Ab (show i+kk<o.length by omega);have hx':=D6 hx;have hxk:=Bs hp.ok hx;obtain ⟨y,hy⟩:∃ y,y=x - q*d - c:=⟨_,rfl⟩;obtain ⟨y0,y1,hneg,hpos⟩:=hp.step ⟨b9,pq.2⟩ hx hd hy;have p0:0<=q*d:=Ox b9 lw.1;have p1:q*d<=9999*9999:=Int.mul_le_mul pq.2 aA lw.1 aA;have f1:B8.wrap (q*d)=q*d:=Aa aD;have f2:B8.wrap (x - q*d)=x - q*d:=Aa aD;have f3:B8.wrap (x - q*d - c)=y:=by rw [hy,Aa aD]
  by_cases hn:y<0
  ·have d3:decide (y<0)=true:=bX
   obtain ⟨r1,r2,r3,r4,pp⟩:=hneg hn;have f4:B8.wrap (0 - y)=0 - y:=Aa aD;have f5:B8.wrap (0 - y+10000)=0 - y+10000:=Aa aD;have f6:B8.wrap (0 - y+10000 - 1)=0 - y+10000 - 1:=Aa aD;have hz2:¬ ((10000:Int)=0):=aA
   obtain ⟨c',ew⟩:∃ c',c'=(0 - y+10000 - 1).tdiv 10000:=⟨_,rfl⟩;rw [<- ew] at r1 r2 r3 r4 pp;have f7:B8.wrap ((0 - y+10000 - 1).tdiv 10000)=c':=by rw [<- ew,Aa aD]
   have f8:B8.wrap (c'*10000)=c'*10000:=Aa aD;have f9:B8.wrap (y+c'*10000)=y+c'*10000:=Aa aD;have c9:=Dn (v:=y+c'*10000) hx;simp (maxSteps:=10^6)+contextual(disch:=try exact dqd)only[ev0,simprocAttr,Ca,Bo,Cb,results129,digA,e0,e1,e2,e7,e9,e10,e59,e60,e61,d2,d3,d8,bg,v7,hx',dd,f1,f2,f3,f4,f5,f6,f7,f8,f9,hz2,c9,Cw];exact IH (kk+1,c',o.set (i+kk) (y+c'*10000)) _ aF ⟨rfl,aE,pp,dB⟩
  ·have d3:decide (y<0)=false:=bX
   have c9:=Dn (v:=y) hx;simp (maxSteps:=10^6)+contextual(disch:=try exact dqd)only[ev0,simprocAttr,Ca,Bo,Cb,results129,digA,e0,e1,e2,e7,e9,e10,e59,e60,e61,d2,d3,d8,bg,v7,hx',dd,f1,f2,f3,c9,Cw];exact IH (kk+1,0,o.set (i+kk) y) _ aF ⟨rfl,aE,hpos hn,dB⟩
 have d2:decide ((kk:Int)<((dig B).length:Int))=false:=aI
 have hke:kk=(dig B).length:=aA
 subst hke;obtain ⟨x,hx⟩:=Ab (show i+(dig B).length<o.length by omega);have hx':=D6 hx;have hxk:=Bs hp.ok hx;have a1d:=hp.done hx pq;have f1:B8.wrap (x - c)=x - c:=Aa aD;have c9:=Dn (v:=x - c) hx;clear hlen IH ai;simp (maxSteps:=10^6)+contextual(disch:=try exact dqd)only[ev0,simprocAttr,Ca,Bo,Cb,results129,digA,e0,e1,e2,e7,e9,e10,e59,e60,e61,d2,wn,hx',kq,f1,c9,Cw];clear f1 hx' c9 hxk hp hlt d2 e0 e1 e2 e7 e9 e10 e59 e60 e61;refine Vq (P:=prog) (fun x st=>st.T.length=151/\(Mid v B m i x.1 x.2)/\getT st.T 0=.sref 0 0 0 m 1/\getT st.T 1=digA (dig B)/\getT st.T 2=.int (i:Nat)/\getT st.T 7=.int (dig B).length/\getT st.T 9=.int x.1/\st.S=[⟨0,x.2.map numC⟩,⟨1,out.map numC⟩]/\st.tk=tk'/\st.n=n') (fun x=>x.1.toNat) (fun x=>(.int ((v / 10000 ^ i / B:Nat):Int),[⟨0,(padD (v - 10000 ^ i*(v / 10000 ^ i / B*B)) m).map numC⟩,⟨1,out.map numC⟩],tk',n')) (q,o.set (i+(dig B).length) (x - c)) ?_ ?_;case refine_2=>exact ⟨rfl,a1d,rfl,rfl,rfl,rfl,rfl,rfl,rfl,rfl⟩
 rintro ⟨q2,o2⟩ ⟨T,S',tk',n'⟩ ⟨hl,hp,e0,e1,e2,e7,e9,eS,eT,eN⟩ IH;simp only at hp e0 e1 e2 e7 e9 eS eT eN;subst eS eT eN;obtain ⟨g,hg,hT⟩:=Ap hl;rw [hg] at e0 e1 e2 e7 e9;subst hT;clear hg hl;have OUT:=IH;clear IH;have hlen:=hp.len;have hq2:=hp.q0;obtain ⟨z,hz⟩:=Ab (show i+(dig B).length<o2.length by omega);have eo:=D6 hz;have hzk:=hp.top z hz;by_cases hn:z<0;case neg =>
  have d3:decide (z<0)=false:=bX
  obtain ⟨r1,r2⟩:=hp.done hB0 hz hn
  simp (maxSteps:=10^6)+contextual(disch:=try exact dqd)only[ev0,simprocAttr,Ca,Bo,Cb,results129,digA,e0,e1,e2,e7,e9,d3,wn,eo,kq,Cw]
  rw [r1,r2]
 have d3:decide (z<0)=true:=bX
 have hq3:=hp.neg hB0 hz hn;have f1:B8.wrap (q2 - 1)=q2 - 1:=Aa aD;have mn:=hp.back hB0 hz hn;simp (maxSteps:=10^6)+contextual(disch:=try exact dqd)only[ev0,simprocAttr,Ca,Bo,Cb,results129,digA,e0,e1,e2,e7,e9,d3,wn,eo,kq,f1,Cw];clear e0 e1 e2 e7 e9 d3 eo f1 hlen hp;refine Vq (P:=prog) (fun x st=>st.T.length=151/\(x.1<=(dig B).length)/\(Back v B m i x.1 (q2 - 1) x.2.1 x.2.2)/\getT st.T 0=.sref 0 0 0 m 1/\getT st.T 1=digA (dig B)/\getT st.T 2=.int (i:Nat)/\getT st.T 7=.int (dig B).length/\getT st.T 9=.int (q2 - 1)/\getT st.T 14=.int x.2.1/\getT st.T 114=digA (dig B)/\getT st.T 115=.int (dig B).length/\getT st.T 116=.int (x.1:Nat)/\st.S=[⟨0,x.2.2.map numC⟩,⟨1,out.map numC⟩]/\st.tk=tk'/\st.n=n') (fun x=>(dig B).length - x.1) (fun x=>(.int ((v / 10000 ^ i / B:Nat):Int),[⟨0,(padD (v - 10000 ^ i*(v / 10000 ^ i / B*B)) m).map numC⟩,⟨1,out.map numC⟩],tk',n')) (0,0,o2) ?_ ?_;case refine_2=>exact ⟨rfl,Ci _,mn,rfl,rfl,rfl,rfl,rfl,rfl,rfl,rfl,rfl,rfl,rfl,rfl⟩
 rintro ⟨kk,c,o3⟩ ⟨T,S',tk',n'⟩ ⟨hl,hk,hp,e0,e1,e2,e7,e9,e14,e114,e115,e116,eS,eT,eN⟩ IH;simp only at hk hp e0 e1 e2 e7 e9 e14 e114 e115 e116 eS eT eN;subst eS eT eN;obtain ⟨g,hg,hT⟩:=Ap hl;rw [hg] at e0 e1 e2 e7 e9 e14 e114 e115 e116;subst hT;clear hg hl;have hlen:=hp.len;have hc:=hp.c0;by_cases hlt:kk<(dig B).length
 ·have d2:decide ((kk:Int)<((dig B).length:Int))=true:=aI
  obtain ⟨d,hd⟩:=Ab hlt;have d8:=Bd hd;have lw:=Bs (A5 B) hd;have bg:=Aw (i:=kk) aA;have v7:B8.wrap ((i:Int)+(kk:Int))=((i+kk:Nat):Int):=aP
  have dd:i+kk<m:=aA
  obtain ⟨x,hx⟩:=Ab (show i+kk<o3.length by omega);have hx':=D6 hx;obtain ⟨y,hy⟩:∃ y,y=x+d+c:=⟨_,rfl⟩;obtain ⟨pp,y0,y1,x0,x1⟩:=hp.step hx hd hy;have f2:B8.wrap (x+d)=x+d:=Aa aD;have f3:B8.wrap (x+d+c)=y:=by rw [hy,Aa aD]
  have hz2:¬ ((10000:Int)=0):=aA
  have ey:y.tdiv 10000=y / 10000:=Cz y0;have f7:B8.wrap (y.tdiv 10000)=y.tdiv 10000:=by rw [ey,Aa aD]
  have c9:=Dn (v:=y.tmod 10000) hx;simp (maxSteps:=10^6)+contextual(disch:=try exact dqd)only[ev0,simprocAttr,Ca,Bo,Cb,results129,digA,e0,e1,e2,e7,e9,e14,e114,e115,e116,d2,d8,bg,v7,hx',dd,f2,f3,f7,hz2,c9,Cw];exact IH (kk+1,y.tdiv 10000,o3.set (i+kk) (y.tmod 10000)) _ aF ⟨rfl,aE,pp,dB⟩
 have d2:decide ((kk:Int)<((dig B).length:Int))=false:=aI
 have hke:kk=(dig B).length:=aA
 subst hke;obtain ⟨x,hx⟩:=Ab (show i+(dig B).length<o3.length by omega);have hx':=D6 hx;have hxk:=hp.top x hx;have a2s:=hp.done hx;have f1:B8.wrap (x+c)=x+c:=Aa aD;have c9:=Dn (v:=x+c) hx;simp (maxSteps:=10^6)+contextual(disch:=try exact dqd)only[ev0,simprocAttr,Ca,Bo,Cb,results129,digA,e0,e1,e2,e7,e9,e14,e114,e115,e116,d2,wn,hx',kq,f1,c9,Cw];exact OUT (q2 - 1,o3.set (i+(dig B).length) (x+c)) _ aF ⟨rfl,a2s,dB⟩
end
end Go.Proofs.YthelkgdmgihhiaaGreat
namespace Go.Proofs.YthelkgdmgihhiaaGreat
open Go Tryz
set_option maxHeartbeats 1000000
set_option maxRecDepth 100000
structure Quo (A B L j v:Nat) (out:List Int):Prop where
 len:out.length=L
 ok:okD out
 lt:v<B*10000 ^ j
 le:v<=A
 eqv:(A:Int)=v+10000 ^ j*(val (out.drop j)*B)
theorem Awq {B:Nat} (hB:0<B):10000 ^ ((dig B).length - 1)<=B:=by
 have h0:(dig B).length≠0:=fun h=>by
  exact Ya32
 rcases Ia B (10000 ^ ((dig B).length - 1)) with h|h
 ·have:=(A9 (n:=B) (k:=(dig B).length - 1)).2 h; omega
 ·exact h
theorem Quo.start {A B:Nat} (hB:0<B) (hAB:B<=A):Quo A B ((dig A).length - (dig B).length+1) ((dig A).length - (dig B).length+1) A (Cg ((dig A).length - (dig B).length+1) 0):=by
 refine ⟨by simp,Acg _,?_,Ce _,?_⟩
 ·have h1:=(A9 (n:=A) (k:=(dig A).length)).1 (Ce _);have h2:=Awq hB;have h0:(dig B).length≠0:=fun h=>by
   exact Ya32
  have h3:=E9 hAB;have h4:=F8 (10000 ^ ((dig A).length - (dig B).length+1)) h2;rw [<- Nat.pow_add] at h4;have e:(dig B).length - 1+((dig A).length - (dig B).length+1)=(dig A).length:=aA
  rw [e] at h4;omega
 ·rw [Fm (by simp)]; simp [val]
theorem Quo.top {A B L j v:Nat} {out:List Int} (h:Quo A B L j v out) (hj:j≠0):v / 10000 ^ (j - 1)<10000*B:=by
 rw [Ih (jR aJ)];have:=h.lt;have e:j=(j - 1)+1:=aA
 rw [e,O5] at this;rw [I5 10000 B,Nat.mul_assoc,I5 10000]; exact this
theorem Quo.step {A B L j v:Nat} {out:List Int} (h:Quo A B L j v out) (hB:0<B) (hj:j≠0) (jm:j<=L) :
  Quo A B L (j - 1) (v - 10000 ^ (j - 1)*(v / 10000 ^ (j - 1) / B*B)) (out.set (j - 1) ((v / 10000 ^ (j - 1) / B:Nat):Int)):=by
 have ht:=h.top hj;have hq:v / 10000 ^ (j - 1) / B<10000:=by rw [Ih hB]; omega
 have lq:v / 10000 ^ (j - 1) / B*B<=v / 10000 ^ (j - 1):=Nat.div_mul_le_self _ _;have ta:10000 ^ (j - 1)*(v / 10000 ^ (j - 1) / B*B)<=v:=Fh (Oy _ lq) (Nat.mul_div_le _ _);have a3x:=I7 (v / 10000 ^ (j - 1)) hB;have hdm:=Ot (v / 10000 ^ (j - 1)) B;have hdv:=Ot v (10000 ^ (j - 1));have rg:=I7 v (jR (n:=j - 1) (show 0<10000 by decide));have yo:j - 1+1=j:=aA
 refine ⟨bS,Pd h.ok (Od _) (Int.ofNat_lt.2 hq),?_,by have:=h.le; omega,?_⟩
 ·generalize 10000 ^ (j - 1)=P at *;generalize v / P / B=q at *;generalize v % P=l at *;generalize v / P % B=r at *;generalize v / P=R at *;have e1:P*R=P*(B*q)+P*r:=by rw [<- hdm,Nat.mul_add]
  have e2:P*(q*B)=P*(B*q):=by rw [I5 q B]
  have e3:P*r+P<=B*P:=by
   rw [<- Nat.mul_succ,I5]; exact F8 _ a3x
  omega
 ·have hv:=h.eqv;have hlt:j - 1<out.length:=by have:=h.len; omega
  rw [P2 hlt,val,yo,Int.ofNat_sub ta,hv];have hp:(10000:Int) ^ j=10000 ^ (j - 1)*10000:=by
   have:=Nw (10000:Int) (j - 1);rwa [Nat.succ_eq_add_one,yo] at this
  rw [hp,iI,iI,Zh,Int.add_mul,I1];generalize (10000:Int) ^ (j - 1)=P;generalize ((v / 10000 ^ (j - 1) / B:Nat):Int)*(B:Int)=t;rw [H9 P 10000,H9 10000 _ (B:Int)];omega
theorem Quo.done {A B L v:Nat} {out:List Int} (h:Quo A B L 0 v out):Dj out=dig (A / B)/\v=A % B:=by
 have hv:=h.eqv;have hl:=h.lt;rw [Fz,Int.pow_zero,Int.one_mul] at hv;rw [Nat.pow_zero,Cw] at hl;obtain ⟨e1,e2⟩:=Alm (Q:=val out) (R:=(v:Int)) (by rw [hv,Int.add_comm]) (Od _) (Int.ofNat_lt.2 hl);rw [Dz h.ok,e1];exact ⟨by congr 1,Int.ofNat.inj e2⟩
theorem Acy {v m:Nat} : Dj (padD v m)=dig v:=by
 rw [Dz (T7 v m),T9]; congr 1
theorem Ah5 {B:Nat} (h:(dig B).length=1):0<B/\B<10000/\dig B=[(B:Int)]:=by
 have h0:B≠0:=fun e=>by subst e; simp [Bp] at h
 have h1:=(A9 (n:=B) (k:=1)).1 aA;rw [Nat.pow_one] at h1;have:=L5 (d:=(B:Int)) aA aA;exact ⟨aA,h1,by simpa using this⟩
section
variable (S:List Ent) (tk:List Nat) (k:Nat)
theorem Xb (A B:Nat) (ha:(dig A).length<=100000) (a0i:(dig B).length<=100000) (hB:0<B):cL prog 88 [digA (dig A),digA (dig B)] S tk k=some (.tup [digA (dig (A / B)),digA (dig (A % B))],S,tk,k):=by
 refine opP func88 ntmps88 (hp3:=rfl) ?_;have hb0:(dig B).length≠0:=fun h=>by
  exact Ya32
 have xt:(dig B).length<=100000->∀ S tk k,cL prog 127 [digA (dig A),digA (dig B)] S tk k=some (.int (cmpN A B),S,tk,k):=fun h S tk k=>Adi S tk k A B aA aA;have hC:=xt a0i;clear xt;simp only [digA] at hC;by_cases hAB:A<B
 ·have d1:decide (cmpN A B<0)=true:=by
   unfold cmpN; rw [if_pos hAB]; rfl
  simp (maxSteps:=10^6)+contextual(disch:=try exact dqd)only[ev0,simprocAttr,Ca,Bo,Cb,results88,digA,hC,d1];rw [jA hAB,O3 hAB,Bp];exact Ya4c
 have d1:decide (cmpN A B<0)=false:=by
  unfold cmpN; rw [if_neg hAB]; split <;> rfl
 by_cases h1:(dig B).length=1
 ·obtain ⟨g0,g1,g2⟩:=Ah5 h1;have hS:=fun S tk k=>Ak0 S tk k A B ha g0 g1;simp only [digA] at hS;have d2:(((dig B).length:Int) == 1)=true:=by rw [h1]; rfl
  have hx':nth ((dig B).map digC) 0=some [.prim (.int .i64 (B:Int))]:=by rw [g2]; rfl
  simp (maxSteps:=10^6)+contextual(disch:=try exact dqd)only[ev0,simprocAttr,Ca,Bo,Cb,results88,digA,hC,d1,d2,hx',hS]
 have d2:(((dig B).length:Int) == 1)=false:=aC
 have hlab:=E9 (a:=A) (b:=B) aA;have ai:=Quo.start hB (show B<=A by omega);obtain ⟨L,hL⟩:∃ L,L=(dig A).length - (dig B).length+1:=⟨_,rfl⟩;rw [<- hL] at ai;have f1:B8.wrap (((dig A).length:Int)+1)=(((dig A).length+1:Nat):Int):=Aw aA;have f2:B8.wrap (((dig A).length:Int) - ((dig B).length:Int))=((L - 1:Nat):Int):=aP
 have f3:B8.wrap (((L - 1:Nat):Int)+1)=((L:Nat):Int):=aP
 have f4:=E2 (n:=L) aA;have mc:(A6 prog 58).bind (Ey prog)=some 8:=aK
 have gd:=Nx (P:=prog) (t:=58) (n:=(dig A).length+1) aT aT mc aA;have a3y:=Nx (P:=prog) (t:=58) (n:=L) aT aT mc aA;have xx:=Afq (P:=prog) (t:=58) (n:=(dig A).length+1) (id:=0) (ep:=0) (l:=dig A) (c:=.unk) (S:=[⟨0,W3 ((dig A).length+1)⟩]) aT aA rfl;simp (maxSteps:=10^6)+contextual(disch:=try exact dqd)only[ev0,simprocAttr,Ca,Bo,Cb,results88,digA,hC,d1,d2,f1,f2,f3,f4,gd,a3y,xx];refine loop1 (P:=prog) (fun x st=>st.T.length=56/\(x.1<=L)/\(Quo A B L x.1 x.2.1 x.2.2)/\getT st.T 0=digA (dig A)/\getT st.T 1=digA (dig B)/\getT st.T 6=.sref 0 0 0 ((dig A).length+1) 1/\getT st.T 7=.sref 1 1 0 L 1/\getT st.T 8=.int ((x.1:Int) - 1)/\st.S=[⟨0,(padD x.2.1 ((dig A).length+1)).map numC⟩,⟨1,x.2.2.map numC⟩]) (fun x=>x.1) (fun x=>.tup [digA (dig (A / B)),digA (dig (A % B))]) (L,A,Cg L 0) ?_ ?_;case refine_2=>exact ⟨rfl,Ce _,by rw [hL] at ai ⊢; exact ai,rfl,rfl,rfl,rfl,rfl,rfl⟩
 rintro ⟨j,v,out⟩ ⟨T,S',tk',n'⟩ ⟨hl,hj,hp,e0,e1,e6,e7,e8,eS⟩ IH;simp only at hj hp e0 e1 e6 e7 e8 eS;subst eS;obtain ⟨g,hg,hT⟩:=Ap hl;rw [hg] at e0 e1 e6 e7 e8;subst hT;clear hg hl;have hlen:=hp.len;have hvl:=E9 hp.le;by_cases h0:j=0
 ·have d3:decide ((j:Int) - 1 >= 0)=false:=aC
  subst h0;obtain ⟨q1,q2⟩:=hp.done;subst q2;have hT:=fun tk k=>Gc [⟨0,(padD (A % B) ((dig A).length+1)).map numC⟩,⟨1,out.map numC⟩] tk k out 1 1 aA rfl;rw [hlen] at hT;have eh:=Nh (v:=A % B) (m:=(dig A).length+1) aA;have ah:=fun tk k=>Gc [⟨0,(padD (A % B) ((dig A).length+1)).map numC⟩,⟨1,out.map numC⟩] tk k (padD (A % B) ((dig A).length+1)) 0 0 aA rfl;rw [eh] at ah;have jo:=Td (m:=0) (id:=1) (ep:=1) (S:=[⟨0,(padD (A % B) ((dig A).length+1)).map numC⟩,⟨1,out.map numC⟩]) (Ci _) rfl (G9 out);have a2t:=Td (m:=0) (id:=0) (ep:=0) (S:=[⟨0,(padD (A % B) ((dig A).length+1)).map numC⟩,⟨1,out.map numC⟩]) (Ce _) rfl (G9 (padD (A % B) ((dig A).length+1)));rw [<- Dl,q1] at jo;rw [<- Dl,Acy] at a2t;rw [q1] at hT;rw [Acy] at ah;simp (maxSteps:=10^6)+contextual(disch:=try exact dqd)only[ev0,simprocAttr,Ca,Bo,Cb,results88,digA,e0,e1,e6,e7,e8,d3,hT,ah,jo,a2t]
 ·have d3:decide ((j:Int) - 1 >= 0)=true:=aC
  have hi:(j:Int) - 1=((j - 1:Nat):Int):=aA
  have hDg:=fun tk k=>Aky tk k v B ((dig A).length+1) (j - 1) out aA aA aA aA (hp.top h0);have a3z:=hp.step hB h0 hj;generalize v / 10000 ^ (j - 1) / B=q at *;generalize v - 10000 ^ (j - 1)*(q*B)=v2 at *;obtain ⟨o,ho⟩:=Ab (show j - 1<out.length by omega);have c9:=Dn (v:=(q:Int)) ho;have dd:j - 1<L:=aA
  have hpw:=E2 (n:=j - 1) aA;simp only [digA] at hDg;rw [hi] at e8 d3;simp (maxSteps:=10^6)+contextual(disch:=try exact dqd)only[ev0,simprocAttr,Ca,Bo,Cb,results88,digA,e0,e1,e6,e7,e8,d3,hDg,c9,dd,hpw,Cw];exact IH (j - 1,v2,out.set (j - 1) (q:Int)) _ aF ⟨rfl,aE,a3z,aB,aB,aB,aB,aB,aB⟩
end
end Go.Proofs.YthelkgdmgihhiaaGreat
namespace Go.Proofs.YthelkgdmgihhiaaGreat
open Go Tryz
set_option maxRecDepth 100000
theorem Awg (p q:Bool) (X Y:Nat) (hY:0<Y):(sg p X).fdiv (sg q Y)=sg (p != q) (if (p != q && !decide (X % Y=0))=true then X / Y+1 else X / Y)/\(sg p X).fmod (sg q Y)=sg q (if (p != q && !decide (X % Y=0))=true then Y - X % Y else X % Y):=by
 have h1:=Ot X Y;have h2:=I7 X hY;have qa:(Y:Int)*((X / Y:Nat):Int)+((X % Y:Nat):Int)=X:=by rw [<- iI,<- Int.natCast_add,h1]
 generalize X / Y=Q at *;generalize X % Y=R at *;cases q with
 | false =>
  have hb:(0:Int)<sg false Y:=by simp [sg]; omega
  refine (Int.fdiv_fmod_unique hb).2 ?_;cases p with
  | false=>simp [sg]; omega
  | true =>
   by_cases hR:R=0
   ·subst hR; simp [sg,Int.mul_neg]; omega
   ·simp [sg,hR,Int.mul_neg,I1]; omega
 | true =>
  have hb:sg true Y<0:=by simp [sg]; omega
  refine (Int.fdiv_fmod_unique' hb).2 ?_;cases p with
  | true=>simp [sg,Rp]; omega
  | false =>
   by_cases hR:R=0
   ·subst hR; simp [sg,Rp,Int.mul_neg]; omega
   ·simp [sg,hR,Rp,Int.mul_neg,I1]; omega
theorem Ap4 {X Y:Nat} (hY:0<Y) (hX:(dig X).length<=200) (hYl:(dig Y).length<=200) (b:Bool):(dig (if (b && !decide (X % Y=0))=true then X / Y+1 else X / Y)).length<=200/\(dig (if (b && !decide (X % Y=0))=true then Y - X % Y else X % Y)).length<=200:=by
 have h1:=Ot X Y;have h2:=I7 X hY;have h3:X / Y<=X:=Ou _ _;constructor
 ·refine Fh (E9 ?_) hX;split
  ·rename_i hh;simp only [Ch,Ig,decide_eq_false_iff_not] at hh;by_cases hY1:Y=1
   ·subst hY1; omega
   ·have:2*(X / Y)<=Y*(X / Y):=F8 _ aA;omega
  ·exact h3
 ·refine Fh (E9 ?_) hYl;exact Ya3v
theorem Agp {p:Bool} {n:Nat} (h:(dig n).length<=200):okZ (sg p n)=true:=by
 unfold okZ; rw [Anv]; simp; omega
def divA (a b:Int):AV:=.tup [zA (if b=0 then 0 else a.fdiv b),zA (if b=0 then 0 else a.fmod b),.bool (!decide (b=0))]
theorem Atl (p q:Bool) (X Y:Nat) (hY:0<Y):divA (sg p X) (sg q Y)=.tup [zA (sg (p != q) (if (p != q && !decide (X % Y=0))=true then X / Y+1 else X / Y)),zA (sg q (if (p != q && !decide (X % Y=0))=true then Y - X % Y else X % Y)),.bool true]:=by
 obtain ⟨h1,h2⟩:=Awg p q X Y hY;have h0:sg q Y≠0:=by cases q <;> simp [sg] <;> omega
 unfold divA;rw [if_neg h0,if_neg h0,h1,h2];simp [h0]
section
variable (S:List Ent) (tk:List Nat) (k:Nat)
theorem Akx (p q:Bool) (l r:List Int) (hl:l.length<=1000000) (hr:r.length<=1000000):cL prog 49 [bigA p l,bigA q r] S tk k=some (divA (V p l) (V q r),S,tk,k):=by
 have rr:=fun S tk k=>Jo S tk k p l .unk hl;have mi:=fun S tk k=>Jo S tk k q r .unk hr;have ha:=Wq p l;have hb:=Wq q r;have e1:=V_sg p l;have e2:=V_sg q r;generalize V p l=x at *;generalize V q r=y at *;generalize hX:x.natAbs=X at *;generalize hY:y.natAbs=Y at *;subst e1 e2;simp only [digA] at rr mi;by_cases hY0:Y=0
 ·subst hY0;have d1:(((dig 0).length:Int) == 0)=true:=rfl;have hz:divA (sg p X) (sg q 0)=.tup [zA 0,zA 0,.bool false]:=by
   have:sg q 0=0:=gD
   rw [this]; rfl
  rw [hz];refine opP func49 ntmps49 (hp3:=rfl) ?_;simp (maxSteps:=10^6)+contextual(disch:=try exact dqd)only[ev0,simprocAttr,Ca,Bo,Cb,results49,bigA,digA,rr,mi,d1];simp [Au7,bigA,digA]
 rw [Atl p q X Y aA];have d1:(((dig Y).length:Int) == 0)=false:=La fun h=>hY0 (D4.1 h);have hV:=fun S tk k=>Xb S tk k X Y aA aA aA;have i6:=E9 (a:=Y) (b:=X % Y) (jW (I7 _ aA));have hql:=E9 (a:=X) (b:=X / Y) (Ou _ _);obtain ⟨k1,k2⟩:=Ap4 (X:=X) (Y:=Y) aA ha hb (p != q);have d2:=Lb (X % Y);have d3:=Lb X;by_cases gv:(p != q && !decide (X % Y=0))=true
 ·rw [if_pos gv] at k1 k2;rw [if_pos gv,if_pos gv];simp only [Ch] at gv;obtain ⟨hpq,hR⟩:=gv;have yy:(p == q)=false:=cV
  have hX0:X≠0:=fun h=>by subst h; simp at hR
  rw [hR] at d2;have d3':decide (((dig X).length:Int) > 0)=true:=by rw [d3]; simp [hX0]
  have hP:=fun S tk k=>Apt S tk k (X / Y) 1 aA (by rw [show dig 1=[1] from rfl]; simp);have hM:=fun S tk k=>Akz S tk k Y (X % Y) aA (jW (I7 _ aA));have hP':=fun S tk k=>(P0 (P:=prog) (f:=89) (S:=S) (tk:=tk) (n:=k) (args:=[digA (dig (X / Y)),.frz [[.prim (.int .i64 1)]] .tight]) (args':=[digA (dig (X / Y)),digA (dig 1)]) rfl rfl rfl).trans (hP S tk k);have dy:=fun S tk k=>K6 S tk k (p != q) (X / Y+1) .unk;have du:=fun c S tk k=>K6 S tk k q (Y - X % Y) c;have bh:=fun tk=>Akm (l:=dig (Y - X % Y)) aA tk;rw [sgnZ,Af5 (Agp k1)] at dy;simp only [sgnZ,Af5 (Agp k2)] at du;rw [hpq] at dy ⊢;generalize sg true (X / Y+1)=z1 at *;generalize sg q (Y - X % Y)=z2 at *;simp only [digA,zA,bigA] at hV hP' hM dy du bh;refine opP func49 ntmps49 (hp3:=rfl) ?_;simp (maxSteps:=10^6)+contextual(disch:=try exact dqd)only[ev0,simprocAttr,Ca,Bo,Cb,results49,bigA,digA,zA,rr,mi,d1,hV,yy,d2,d3',hP',hM,dy,du,bh]
 ·rw [if_neg gv] at k1 k2;rw [if_neg gv,if_neg gv];have dy:=fun S tk k=>K6 S tk k (p != q) (X / Y) .unk;have du:=fun c S tk k=>K6 S tk k q (X % Y) c;have bh:=fun tk=>Akm (l:=dig (X % Y)) aA tk;rw [sgnZ,Af5 (Agp k1)] at dy;simp only [sgnZ,Af5 (Agp k2)] at du;generalize sg (p != q) (X / Y)=z1 at *;generalize sg q (X % Y)=z2 at *;simp only [digA,zA,bigA] at hV dy du bh;simp only [Ch,not_and,jB] at gv;cases hpq:(p != q) with
  | false =>
   have yy:(p == q)=true:=cV
   rw [hpq] at dy;refine opP func49 ntmps49 (hp3:=rfl) ?_;simp (maxSteps:=10^6)+contextual(disch:=try exact dqd)only[ev0,simprocAttr,Ca,Bo,Cb,results49,bigA,digA,zA,rr,mi,d1,hV,yy,dy,du,bh]
  | true =>
   have d2':decide (((dig (X % Y)).length:Int) > 0)=false:=by rw [d2]; exact gv hpq
   have yy:(p == q)=false:=cV
   rw [hpq] at dy;refine opP func49 ntmps49 (hp3:=rfl) ?_;simp (maxSteps:=10^6)+contextual(disch:=try exact dqd)only[ev0,simprocAttr,Ca,Bo,Cb,results49,bigA,digA,zA,rr,mi,d1,hV,yy,d2',dy,du,bh]
theorem Aqg {x y G:Nat} (h:Nat.gcd x y=G) (h0:y≠0):Nat.gcd y (x % y)=G:=by
 rw [iG,<- Nat.gcd_rec,iG,h]
theorem Axr (n:Nat):zA (n:Int)=bigA false (dig n):=by
 have:decide ((n:Int)<0)=false:=by simp
 simp [zA,this]
theorem Atc (p q:Bool) (l r:List Int) (hl:l.length<=1000000) (hr:r.length<=1000000):cL prog 48 [bigA p l,bigA q r] S tk k=some (zA ((V p l).gcd (V q r):Nat),S,tk,k):=by
 have rr:=fun S tk k=>Jo S tk k p l .unk hl;have mi:=fun S tk k=>Jo S tk k q r .unk hr;have ha:=Wq p l;have hb:=Wq q r;rw [Axr,show (V p l).gcd (V q r)=Nat.gcd (V p l).natAbs (V q r).natAbs from rfl];generalize (V p l).natAbs=X at *;generalize (V q r).natAbs=Y at *;simp only [digA] at rr mi;refine opP func48 ntmps48 (hp3:=rfl) ?_;simp (maxSteps:=10^6)+contextual(disch:=try exact dqd)only[ev0,simprocAttr,Ca,Bo,Cb,results48,bigA,digA,rr,mi];refine loop1 (P:=prog) (fun x st=>st.T.length=27/\((dig x.1).length<=200)/\((dig x.2).length<=200)/\(Nat.gcd x.1 x.2=Nat.gcd X Y)/\getT st.T 2=.ref 0 0 0/\getT st.T 3=.ref 1 1 0/\getT st.T 4=.ref 2 2 0/\getT st.T 5=digA (dig x.1)/\getT st.T 6=digA (dig x.2)/\st.S=[⟨0,[.bool p,digA l]⟩,⟨1,[.bool q,digA r]⟩,⟨2,[.bool false,.frz [] .nilc]⟩]) (fun x=>x.2) (fun x=>bigA false (dig (Nat.gcd X Y))) (X,Y) ?_ ?_;case refine_2=>exact ⟨rfl,ha,hb,rfl,rfl,rfl,rfl,rfl,rfl,rfl⟩
 rintro ⟨x,y⟩ ⟨T,S',tk',n'⟩ ⟨hl,hx,hy,hg,e2,e3,e4,e5,e6,eS⟩ IH;simp only at hx hy hg e2 e3 e4 e5 e6 eS;subst eS;obtain ⟨g,hg,hT⟩:=Ap hl;rw [hg] at e2 e3 e4 e5 e6;subst hT;clear hg hl;by_cases h0:y=0
 ·have d1:decide (((dig y).length:Int) > 0)=false:=by rw [Lb]; simp [h0]
  have bh:=fun tk=>Akm (l:=dig x) aA tk;have hgx:Nat.gcd X Y=x:=by rw [<- hg,h0,I6]
  rw [hgx];simp (maxSteps:=10^6)+contextual(disch:=try exact dqd)only[ev0,simprocAttr,Ca,Bo,Cb,results48,bigA,digA,e2,e3,e4,e5,e6,d1,bh]
 ·have d1:decide (((dig y).length:Int) > 0)=true:=by rw [Lb]; simp [h0]
  have hV:=fun S tk k=>Xb S tk k x y aA aA aA;simp only [digA] at hV;have hyl:=I7 x (Nat.pos_of_ne_zero h0);simp (maxSteps:=10^6)+contextual(disch:=try exact dqd)only[ev0,simprocAttr,Ca,Bo,Cb,results48,bigA,digA,e2,e3,e4,e5,e6,d1,hV];exact IH (y,x % y) _ aF ⟨rfl,hy,Fh (E9 (jW hyl)) hy,Aqg hg h0,aB,aB,aB,aB,aB,aB⟩
end
end Go.Proofs.YthelkgdmgihhiaaGreat
