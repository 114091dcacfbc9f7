/- Part 15. -/
import Derived.Sort.OwnSorted
import Derived.Sort.Grow
import Derived.Lib.OwnBridge
import Derived.Laws.AppendOwn
import Derived.Laws.AppendOwnNone
import Derived.Lib.Hide
import Derived.Test.YthelkgdmgihhiaaGreatZF14
open Bool renaming or_eq_true->Ib
open Go.Lib renaming hid->Cp
open Go.RowKit.Below renaming refl->Fw
open Go.Value renaming oneCell'->jG
open Go.World renaming cell?->I7
open List renaming replicate->Cg,map_cons->Cn,nil_append->Cr,map_nil->Cs,mem_append->C3,getElem?_map->Et,length_map->Fg,append_nil->Fo,mem_map->F9,length_pos_iff->Ic,getElem?_take->Ms,map_congr_left->Sv,map_map->kR
open Nat renaming le_refl->Ce,mul_one->Fj,zero_add->Fm,lt_or_ge->Ig,add_zero->Ik
open Option renaming map_eq_some_iff->Cc
open Option.some renaming injEq->Ba
namespace Go.Proofs.YthelkgdmgihhiaaGreat
section
open Go Tryz Go.RowKit Go.Sort
set_option maxHeartbeats 2000000
set_option maxRecDepth 100000
theorem Auy:(prog.info? 9).map (fun i=>(i.zero,i.size,i.bytes))=some (some (.string ⟨#[]⟩),1,16):=aM
theorem Aii (w:World):Calls prog 78 #[.slice none 0 0,.slice none 0 0] w fun e w'=>∃ a,e=.returned (.slice a 0 0)/\Below w.heap.size w w':=by
 go_enter func78,ntmps78;go_wp2_with (go_at_call 110; refine (Tryz.slices_Sort_string_none _ _ _).mono ?_; rintro e w' ⟨rfl,rfl⟩);go_wp2_with (go_at_call 111; refine (Tryz.slices_Compact_string_empty _ _ _).mono ?_; rintro e w' ⟨rfl,rfl⟩);go_ret;exact ⟨_,rfl,(Fw _ _).alloc (Ce _) _⟩
theorem Anj {w w1:World} {g cap n nn q:Nat} {os:Array Obj} {ss:List (List UInt8)} (hown:w1.ownsRow w.heap.size 9 1 (.slice (some ⟨g,0,none⟩) n cap) n (ss.map encStr)) (hbel:Below w.heap.size w w1) (hbg:w.heap.size<=g) (hlen:ss.length=n) :
  ∃ g' cap',(Ending.returned (.slice (some ⟨g,0,none⟩) (Lib.compact (ss.mergeSort fun x y=>decide (x<=y))).length cap))=.returned (.slice (some ⟨g',0,none⟩) (Lib.compact (ss.mergeSort fun x y=>decide (x<=y))).length cap') /\
   (putRow encStr (Sort.ahead (grow (putRow encStr (Sort.ahead w1 nn) g 0 (ss.mergeSort fun x y=>decide (x<=y)).toArray) os) q) g 0 (Lib.compact (ss.mergeSort fun x y=>decide (x<=y))++Cg (n - (Lib.compact (ss.mergeSort fun x y=>decide (x<=y))).length) []).toArray).ownsRow w.heap.size 9 1 (.slice (some ⟨g',0,none⟩) (Lib.compact (ss.mergeSort fun x y=>decide (x<=y))).length cap') (Lib.compact (ss.mergeSort fun x y=>decide (x<=y))).length ((Lib.compact (ss.mergeSort fun x y=>decide (x<=y))).map encStr) /\
   Below w.heap.size w (putRow encStr (Sort.ahead (grow (putRow encStr (Sort.ahead w1 nn) g 0 (ss.mergeSort fun x y=>decide (x<=y)).toArray) os) q) g 0 (Lib.compact (ss.mergeSort fun x y=>decide (x<=y))++Cg (n - (Lib.compact (ss.mergeSort fun x y=>decide (x<=y))).length) []).toArray):=by
 have hl2:(ss.mergeSort fun x y=>decide (x<=y)).length=ss.length:=List.length_mergeSort ss;have hle:=Lib.compact_length_le (ss.mergeSort fun x y=>decide (x<=y));subst hlen;rcases hown.2 with ⟨h0,_⟩|⟨g',cap',cur,hv,hbase,hb,h1,h2,h3,h4⟩
 ·cases h0
 cases hv;have hs:=ownsRow_sorted (n:=nn) (os:=os) (ts:=ss.mergeSort fun x y=>decide (x<=y)) hl2 hbase hb h1 h2 h3;have hc:=Lib.ownsRow_putRow (q:=q) (k:=(Lib.compact (ss.mergeSort fun x y=>decide (x<=y))).length) (ys:=Lib.compact (ss.mergeSort fun x y=>decide (x<=y))++Cg (ss.length - (Lib.compact (ss.mergeSort fun x y=>decide (x<=y))).length) []) hs aC aA;rw [List.take_left] at hc;exact ⟨g,cap,rfl,hc,Lib.below_putRow (hbel.grown (grownBy_sorted _) hbel.size (fun j hj=>by cases hj; exact hbase)) hbg⟩
theorem Ani {w:World} {b o len cap:Nat} {ss:List (List UInt8)} (hl:ss.length=len) (hc:∀ j u,(ss.map encStr)[j]?=some u->w.cell? ⟨b,o+j,none⟩=some u) (hbig:len<=1000000) {ops:Array Oper} {rest:List Oper} {op:Oper} {a:Act} {Q:Exit->Act->World->Prop}
  (hgd:op.guard=none) (ho:op.op=.call { callee:=.builtin .append,args:=#[.tmp 6,.tmp 7],argTypes:=#[37,37] }) (h6:a.eval (.tmp 6)=.slice (some ⟨w.heap.size,0,none⟩) 0 0) (h7:a.eval (.tmp 7)=.slice (some ⟨b,o,none⟩) len cap)
  (h:∀ v' w',w'.ownsRow w.heap.size 9 1 v' len (ss.map encStr)->Below w.heap.size w w'->v'≠.slice none 0 0->wpList prog ops Q rest (a.put op.dst v') w'):wpList prog ops Q (op :: rest) a (w.alloc (.cells #[] 9)):=by
 obtain ⟨i0,hi,hz0,hz1,hz2⟩:=info_parts Auy;have hbel0:Below w.heap.size w (w.alloc (.cells #[] 9)):=(Fw _ _).alloc (Ce _) _;refine wpList_append_own _ hgd _ _ 37 ho w.heap.size 9 i0 (.string ⟨#[]⟩) 1 16 underlying37 hi hz0 hz1 hz2 rfl aP (.slice (some ⟨w.heap.size,0,none⟩) 0 0) 0 [] h6 (World.ownsRow_made w #[] 0 (Ce _) aP rfl) ⟨b,o,none⟩ len cap (ss.map encStr) h7 (by rw [Fg,hl,Fj]) (fun j u hj=>?_) (fun u hu=>?_) fF aA hbel0.size (fun v' w' hown hg hn=>?_)
 ·have:=hc j u hj;rw [Dz,hbel0.cell (Gx this)]; exact this
 ·obtain ⟨x,-,rfl⟩:=F9.1 hu;rfl
 ·rw [Fm,Cr] at hown;refine h v' w' hown (hbel0.grown hg hbel0.size fun j hj=>?_) fun e=>?_
  ·simp only [Value.ownBlock,Ba] at hj; omega
  ·have:=(hn.1 e).1;simp at this
theorem Aij (w:World) (b o len cap:Nat) (ss:List (List UInt8)) (hl:ss.length=len) (hpos:0<len) (hc:∀ j u,(ss.map encStr)[j]?=some u->w.cell? ⟨b,o+j,none⟩=some u) (hbig:len<=1000000):Calls prog 78 #[.slice (some ⟨b,o,none⟩) len cap,.slice none 0 0] w fun e w' =>
  ∃ g cap,e=.returned (.slice (some ⟨g,0,none⟩) (Lib.compact (ss.mergeSort fun x y=>decide (x<=y))).length cap) /\
  w'.ownsRow w.heap.size 9 1 (.slice (some ⟨g,0,none⟩) (Lib.compact (ss.mergeSort fun x y=>decide (x<=y))).length cap) (Lib.compact (ss.mergeSort fun x y=>decide (x<=y))).length ((Lib.compact (ss.mergeSort fun x y=>decide (x<=y))).map encStr)/\Below w.heap.size w w':=by
 have HC:=Cp hc;have HL:=Cp hl;clear hc hl;go_enter func78,ntmps78;go_wp2_with (at_builtin; refine Ani HL.out HC.out hbig rfl rfl rfl rfl ?_; intro v1 w1 hown hbel hnn; obtain ⟨g,cap1,rfl,hbg,hgl,hncap,hcm,-,hH⟩:=Lib.holds_of_ownsRow hown hnn; have HO:=Cp hown; have HB:=Cp hbel; have HG:=Cp hbg; have HS:=Cp (show Calls prog 110 #[.slice (some ⟨g,0,none⟩) len cap1] w1 fun e w'=>e=.returned (.tuple #[])/\∃ n os,w'=grow (putRow encStr (Sort.ahead w1 n) g 0 (ss.mergeSort fun x y=>decide (x<=y)).toArray) os from by have:=Tryz.slices_Sort_string g 0 cap1 ss w1 hH hgl (by rw [HL.out]; omega); rw [HL.out] at this; exact this); have HH:=Cp hH; have HGL:=Cp hgl; clear hown hbel hnn hbg hgl hH);have HC2:=Cp (show ∀ nn os,Calls prog 111 #[.slice (some ⟨g,0,none⟩) len cap1] (grow (putRow encStr (Sort.ahead w1 nn) g 0 (ss.mergeSort fun x y=>decide (x<=y)).toArray) os) fun e w'=>e=.returned (.slice (some ⟨g,0,none⟩) (Lib.compact (ss.mergeSort fun x y=>decide (x<=y))).length cap1)/\∃ q,w'=putRow encStr (Sort.ahead (grow (putRow encStr (Sort.ahead w1 nn) g 0 (ss.mergeSort fun x y=>decide (x<=y)).toArray) os) q) g 0 (Lib.compact (ss.mergeSort fun x y=>decide (x<=y))++Cg (len - (Lib.compact (ss.mergeSort fun x y=>decide (x<=y))).length) []).toArray from by
  intro nn os;have hl2:(ss.mergeSort fun x y=>decide (x<=y)).length=len:=by rw [List.length_mergeSort]; exact HL.out
  have hH2:Holds encStr (grow (putRow encStr (Sort.ahead w1 nn) g 0 (ss.mergeSort fun x y=>decide (x<=y)).toArray) os) g 0 (ss.mergeSort fun x y=>decide (x<=y)).toArray :=
   holds_grow encStr _ os g 0 _ (by simpa [putRow,mapBlock,Sort.ahead] using HGL.out) (holds_putRow encStr _ g 0 _ _ (holds_ahead encStr w1 nn g 0 _ HH.out) (by simp))
  have:=Tryz.slices_Compact_string g 0 cap1 (ss.mergeSort fun x y=>decide (x<=y)) _ hH2 aA aA;rw [hl2] at this;exact this)
 go_wp2_with (go_at_call 110; refine HS.out.mono ?_; rintro e w2 ⟨rfl,nn,os,rfl⟩);go_wp2_with (go_at_call 111; refine (HC2.out nn os).mono ?_; rintro e w3 ⟨rfl,q,rfl⟩);go_ret;exact Anj HO.out HB.out HG.out HL.out
theorem Xy {z:List (List UInt8)} (hz:z.Pairwise (·<=·)):(Lib.compact z).Pairwise (· < ·)/\∀ x,x ∈ Lib.compact z↔x ∈ z:=by
 have mono:∀ i j,i<=j->j<z.length->z.toArray[i]!<=z.toArray[j]!:=by
  intro i j hij hj;rw [getElem!_pos z.toArray i aC,getElem!_pos z.toArray j bL];rcases Ig i j with h|h
  ·exact List.pairwise_iff_getElem.1 hz i j aA hj h
  ·have:i=j:=aA
   subst this;exact List.le_refl _
 have key:∀ m,m<=z.length->(Lib.compactUpTo z.toArray m).Pairwise (· < ·)/\∀ x,x ∈ Lib.compactUpTo z.toArray m↔∃ j,j<m/\z.toArray[j]! = x:=by
  intro m;induction m with
  | zero=>intro _; exact ⟨by simp [Lib.compactUpTo],fun x=>by simp [Lib.compactUpTo]⟩
  | succ m ih =>
   intro hm;obtain ⟨h1,h2⟩:=ih aA;rw [Lib.compactUpTo_succ];cases hk:Lib.keeps z.toArray m with
   | true =>
    rw [if_pos rfl];refine ⟨List.pairwise_append.2 ⟨h1,by simp,fun x hx y hy=>?_⟩,fun x=>?_⟩
    ·obtain ⟨j,hj,rfl⟩:=(h2 x).1 hx;have hy:y=z.toArray[m]!:=by simpa using hy
     subst hy;simp only [Lib.keeps,decide_eq_true_eq] at hk;have hne:=hk.resolve_left aA;refine List.not_le.1 fun hle=>hne ?_;exact List.le_antisymm (List.le_trans hle (mono j (m - 1) aA aA)) (mono (m - 1) m aA aA)
    ·rw [C3,h2];constructor
     ·rintro (⟨j,hj,e⟩|h)
      ·exact ⟨j,aA,e⟩
      ·exact ⟨m,aA,(by simpa using h:x=_).symm⟩
     ·rintro ⟨j,hj,e⟩;by_cases hjm:j=m
      ·subst hjm; exact .inr (by simp [e])
      ·exact .inl ⟨j,aA,e⟩
   | false =>
    rw [if_neg (by simp),Fo];refine ⟨h1,fun x=>?_⟩;rw [h2];simp only [Lib.keeps,decide_eq_false_iff_not,not_or,Decidable.not_not] at hk;constructor
    ·rintro ⟨j,hj,e⟩; exact ⟨j,aA,e⟩
    ·rintro ⟨j,hj,e⟩;by_cases hjm:j=m
     ·subst hjm; exact ⟨j - 1,aA,by rw [<- hk.2]; exact e⟩
     ·exact ⟨j,aA,e⟩
 obtain ⟨h1,h2⟩:=key z.length (Ce _);refine ⟨h1,fun x=>(h2 x).trans ?_⟩;constructor
 ·rintro ⟨j,hj,rfl⟩;rw [getElem!_pos z.toArray j bL];simp
 ·intro hx;obtain ⟨j,hj,rfl⟩:=List.getElem_of_mem hx;exact ⟨j,hj,by rw [getElem!_pos z.toArray j bL]; simp⟩
theorem Acw (l:List ByteArray):Lib.compact ((l.map nm).mergeSort fun x y=>decide (x<=y))=(uniS l).map nm:=by
 have hz:((l.map nm).mergeSort fun x y=>decide (x<=y)).Pairwise (·<=·):=by
  have:=List.pairwise_mergeSort (le:=fun x y:List UInt8=>decide (x<=y)) (fun a b c h1 h2=>by simp only [decide_eq_true_eq] at *; exact List.le_trans h1 h2) (fun a b=>by simp only [Ib,decide_eq_true_eq]; exact List.le_total a b) (l.map nm);exact this.imp fun h=>aL
 obtain ⟨h1,h2⟩:=Xy hz;obtain ⟨u1,u2,-⟩:=Kj l;generalize Lib.compact ((l.map nm).mergeSort fun x y=>decide (x<=y))=T at h1 h2;have e:T=(T.map fun x=>(⟨x.toArray⟩:ByteArray)).map nm:=by
  rw [kR];conv=>lhs; rw [<- List.map_id T]
  exact Sv fun x _=>by simp [nm]
 rw [e];congr 1;refine Aq2 ?_ u1 fun x=>?_
 ·unfold Inc;rw [List.pairwise_map];exact h1.imp fun h=>by simpa [nm] using h
 ·rw [u2];have:x ∈ (T.map fun x=>(⟨x.toArray⟩:ByteArray))↔nm x ∈ T:=by
   rw [F9];constructor
   ·rintro ⟨y,hy,rfl⟩; simpa [nm] using hy
   ·intro h; exact ⟨nm x,h,by simp [nm]⟩
  rw [this,h2,List.mem_mergeSort,F9];constructor
  ·rintro ⟨y,hy,h⟩; rw [Al8 h] at hy; exact hy
  ·intro h; exact ⟨x,h,rfl⟩
theorem Am7 {w:World} {A:Nat->Nat->Prop} {b sz:Nat} : ∀ {l:List ByteArray} {o j:Nat} {x:ByteArray},B4 w A b sz o (l.map strC)->nth l j=some x->sz=1/\w.cell? ⟨b,o+j,none⟩=some (.string x)
 | y :: l,o,0,x,h,hx=>by
  simp only [nth,Ba] at hx;subst hx;simp only [Cn,B4,strC] at h;obtain ⟨h0,⟨vs,h1,h2⟩,-⟩:=h;match vs,h2 with
  | [v],h2 =>
  simp only [PRs,PR,and_true] at h2;simp only [Lie] at h1;have h0:sz=1:=by simpa using h0.symm
  exact ⟨h0,by rw [Ik,h1.1,h2.1]⟩
 | y :: l,o,j+1,x,h,hx=>by
  simp only [nth] at hx;simp only [Cn,B4] at h;obtain ⟨h0,-,h3⟩:=h;have h0:sz=1:=by simpa [strC] using h0.symm
  subst h0;obtain ⟨-,h4⟩:=Am7 h3 hx;exact ⟨rfl,by rw [<- h4]; congr 2; omega⟩
theorem Wg {w:World} {A:Nat->Nat->Prop} {b:Nat} (hA:∀ o,¬ A b o):∀ (l:List ByteArray) (o:Nat),(∀ i x,nth l i=some x->w.cell? ⟨b,o+i,none⟩=some (.string x))->B4 w A b 1 o (l.map strC)
 | [],_,_=>by simp only [Cs,B4]
 | x :: l,o,h=>by
  simp only [Cn,B4];have h1:=h 0 x rfl;refine ⟨rfl,⟨[.string x],⟨h1,hA _,trivial⟩,?_⟩,Wg hA l (o+1) fun i d hd=>?_⟩
  ·simp [PRs,PR,strC,jG]
  ·have:=h (i+1) d hd;rwa [show o+(i+1)=o+1+i from by omega] at this
theorem Ajg {C:Cx} {vs:Array Value} (hs:SR C) (l:List ByteArray) (c:Cap) (hlen:l.length<=1000000) (hc:l=[]->c=.nilc) (hv:VRs C [.frz (l.map strC) c,.frz [] .nilc] vs.toList) :
  Calls prog 78 vs C.w fun e w'=>∃ v C',e=.returned v/\C'.w=w'/\Le C C'/\SR C'/\C'.S=C.S/\C'.tk=C.tk/\C'.n=C.n/\VR C' (Ap (uniS l)) v:=by
 obtain ⟨vl⟩:=vs;match vl,hv with
 | [x,y],hv =>
 simp only [VRs,VR,and_true] at hv;obtain ⟨⟨a,len,cap,rfl,h1,h2,h3,h4⟩,⟨a2,len2,cap2,rfl,g1,g2,g3,-⟩⟩:=hv;have g1:len2=0:=by simpa using g1.symm
 subst g1;obtain ⟨rfl,g3⟩:=(g3:a2=none/\cap2=0);subst g3;by_cases hl:l=[]
 ·subst hl;obtain rfl:=hc rfl;have h1:len=0:=by simpa using h1.symm
  subst h1;obtain ⟨rfl,h3⟩:=(h3:a=none/\cap=0);subst h3;refine (Aii C.w).mono ?_;rintro e w' ⟨a,rfl,hb⟩;refine ⟨_,C.at w',rfl,rfl,Le.of_below hb,SR.of_below hs hb,rfl,rfl,rfl,?_⟩;simp only [Ap,uniS,List.foldl_nil,Cs,VR];exact ⟨a,0,0,rfl,rfl,Ce _,trivial,.inl trivial⟩
 ·have hpos:0<l.length:=Ic.2 hl;obtain ⟨b,o,sz,rfl,hr⟩:=h4.resolve_left cD;have h1:l.length=len:=aW
  subst h1;have hcell:∀ j u,((l.map nm).map encStr)[j]?=some u->C.w.cell? ⟨b,o+j,none⟩=some u:=by
   intro j u hj;rw [kR,Et,Cc] at hj;obtain ⟨x,hx,rfl⟩:=hj;rw [(Am7 hr (by rw [Af]; exact hx)).2];simp [nm]
  refine (Aij C.w b o l.length cap (l.map nm) (by simp) hpos hcell hlen).mono ?_;rintro e w' ⟨g,cap',rfl,hown,hb⟩;rw [Acw] at hown ⊢;rcases hown.2 with ⟨h0,-⟩|⟨g',cap2,cur,hv,hbase,hg,k1,k2,k3,k4⟩
  ·cases h0
  cases hv;refine ⟨_,C.at w',rfl,rfl,Le.of_below hb,SR.of_below hs hb,rfl,rfl,rfl,?_⟩;simp only [Ap,VR];refine ⟨_,_,_,rfl,by simp,by simpa using k1,trivial,.inr ⟨g,0,1,rfl,Wg (fun o ha=>?_) _ _ fun i x hx=>?_⟩⟩
  ·rcases ha with ha|ha
   ·have:=hs.avlt g o ha; omega
   ·have:=Al4 hs (show C.Mut g o from ha); omega
  ·have hx':=hx;rw [Af] at hx';have hi:i<(uniS l).length:=Bn hx;show w'.cell? _=_;have hq:cur.toList[i]?=some (.string x):=by
    have:(cur.toList.take (((uniS l).map nm).length*1))[i]?=some (.string x):=by
     rw [k4,kR,Et,hx'];simp [nm]
    rw [Ms] at this;split at this
    ·exact this
    ·simp at this
   simp only [I7,hg,Fm];simpa using hq
end
end Go.Proofs.YthelkgdmgihhiaaGreat
