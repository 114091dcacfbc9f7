/- Part 14. -/
import Derived.Test.YthelkgdmgihhiaaGreatDoorZK13
import Derived.Sort.OwnSorted
import Derived.Sort.Grow
import Derived.Lib.OwnBridge
import Derived.Laws.AppendOwn
import Derived.Laws.AppendOwnNone
import Derived.Lib.Hide
namespace Go.Proofs.YthelkgdmgihhiaaGreatDoor
section
open Go Tryz Go.RowKit Go.Sort
theorem Agf:(prog.info? 9).map (fun i=>(i.zero,i.size,i.bytes))=some (some (.string ⟨#[]⟩),1,16):=by kernel_rfl
set_option maxHeartbeats 2000000 in
set_option maxRecDepth 100000 in
theorem Xv (w:World):Calls prog 98 #[.slice none 0 0,.slice none 0 0] w fun e w'=>∃ a,e=.returned (.slice a 0 0)/\Below w.heap.size w w':=by
 go_enter func98,ntmps98
 go_wp2_with (go_at_call 146; refine (Tryz.slices_Sort_string_none _ _ _).mono ?_; rintro e w' ⟨rfl,rfl⟩)
 go_wp2_with (go_at_call 147; refine (Tryz.slices_Compact_string_empty _ _ _).mono ?_; rintro e w' ⟨rfl,rfl⟩)
 go_ret
 exact ⟨_,rfl,(Below.refl _ _).alloc (Nat.le_refl _) _⟩
theorem Aa5 {w w1:World} {g cap n nn q:Nat} {os:Array Obj} {ss:List (List UInt8)} (hown:w1.ownsRow w.heap.size 9 1 (.slice (some ⟨g,0,none⟩) n cap) n (ss.map encStr)) (hbel:Below w.heap.size w w1) (hbg:w.heap.size<=g) (hlen:ss.length=n) :
  ∃ g' cap',(Ending.returned (.slice (some ⟨g,0,none⟩) (Lib.compact (ss.mergeSort fun x y=>decide (x<=y))).length cap))=.returned (.slice (some ⟨g',0,none⟩) (Lib.compact (ss.mergeSort fun x y=>decide (x<=y))).length cap') /\
   (putRow encStr (Sort.ahead (grow (putRow encStr (Sort.ahead w1 nn) g 0 (ss.mergeSort fun x y=>decide (x<=y)).toArray) os) q) g 0 (Lib.compact (ss.mergeSort fun x y=>decide (x<=y))++List.replicate (n - (Lib.compact (ss.mergeSort fun x y=>decide (x<=y))).length) []).toArray).ownsRow w.heap.size 9 1 (.slice (some ⟨g',0,none⟩) (Lib.compact (ss.mergeSort fun x y=>decide (x<=y))).length cap') (Lib.compact (ss.mergeSort fun x y=>decide (x<=y))).length ((Lib.compact (ss.mergeSort fun x y=>decide (x<=y))).map encStr) /\
   Below w.heap.size w (putRow encStr (Sort.ahead (grow (putRow encStr (Sort.ahead w1 nn) g 0 (ss.mergeSort fun x y=>decide (x<=y)).toArray) os) q) g 0 (Lib.compact (ss.mergeSort fun x y=>decide (x<=y))++List.replicate (n - (Lib.compact (ss.mergeSort fun x y=>decide (x<=y))).length) []).toArray):=by
 have hl2:(ss.mergeSort fun x y=>decide (x<=y)).length=ss.length:=List.length_mergeSort ss
 have hle:=Lib.compact_length_le (ss.mergeSort fun x y=>decide (x<=y))
 subst hlen
 rcases hown.2 with ⟨h0,_⟩|⟨g',cap',cur,hv,hbase,hb,h1,h2,h3,h4⟩
 ·cases h0
 cases hv
 have hs:=ownsRow_sorted (n:=nn) (os:=os) (ts:=ss.mergeSort fun x y=>decide (x<=y)) hl2 hbase hb h1 h2 h3
 have hc:=Lib.ownsRow_putRow (q:=q) (k:=(Lib.compact (ss.mergeSort fun x y=>decide (x<=y))).length) (ys:=Lib.compact (ss.mergeSort fun x y=>decide (x<=y))++List.replicate (ss.length - (Lib.compact (ss.mergeSort fun x y=>decide (x<=y))).length) []) hs (by simp; omega) (by omega)
 rw [List.take_left] at hc
 exact ⟨g,cap,rfl,hc,Lib.below_putRow (hbel.grown (grownBy_sorted _) hbel.size (fun j hj=>by cases hj; exact hbase)) hbg⟩
theorem Aa4 {w:World} {b o len cap:Nat} {ss:List (List UInt8)} (hl:ss.length=len) (hc:∀ j u,(ss.map encStr)[j]?=some u->w.cell? ⟨b,o+j,none⟩=some u) (hbig:len<=1000000) {ops:Array Oper} {rest:List Oper} {op:Oper} {a:Act} {Q:Exit->Act->World->Prop}
  (hgd:op.guard=none) (ho:op.op=.call { callee:=.builtin .append,args:=#[.tmp 6,.tmp 7],argTypes:=#[50,50] }) (h6:a.eval (.tmp 6)=.slice (some ⟨w.heap.size,0,none⟩) 0 0) (h7:a.eval (.tmp 7)=.slice (some ⟨b,o,none⟩) len cap)
  (h:∀ v' w',w'.ownsRow w.heap.size 9 1 v' len (ss.map encStr)->Below w.heap.size w w'->v'≠.slice none 0 0->wpList prog ops Q rest (a.put op.dst v') w'):wpList prog ops Q (op :: rest) a (w.alloc (.cells #[] 9)):=by
 obtain ⟨i0,hi,hz0,hz1,hz2⟩:=info_parts Agf
 have hbel0:Below w.heap.size w (w.alloc (.cells #[] 9)):=(Below.refl _ _).alloc (Nat.le_refl _) _
 refine wpList_append_own _ hgd _ _ 50 ho w.heap.size 9 i0 (.string ⟨#[]⟩) 1 16 underlying50 hi hz0 hz1 hz2 rfl (by decide) (.slice (some ⟨w.heap.size,0,none⟩) 0 0) 0 [] h6 (World.ownsRow_made w #[] 0 (Nat.le_refl _) (by decide) rfl) ⟨b,o,none⟩ len cap (ss.map encStr) h7 (by rw [List.length_map,hl,Nat.mul_one]) (fun j u hj=>?_) (fun u hu=>?_) (by unfold maxLen; omega) (by omega) hbel0.size (fun v' w' hown hg hn=>?_)
 ·have:=hc j u hj
  rw [A2,hbel0.cell (Dg this)]; exact this
 ·obtain ⟨x,-,rfl⟩:=List.mem_map.1 hu
  rfl
 ·rw [Nat.zero_add,List.nil_append] at hown
  refine h v' w' hown (hbel0.grown hg hbel0.size fun j hj=>?_) fun e=>?_
  ·simp only [Value.ownBlock,Option.some.injEq] at hj; omega
  ·have:=(hn.1 e).1
   simp at this
set_option maxHeartbeats 2000000 in
set_option maxRecDepth 100000 in
theorem Xw (w:World) (b o len cap:Nat) (ss:List (List UInt8)) (hl:ss.length=len) (hpos:0<len) (hc:∀ j u,(ss.map encStr)[j]?=some u->w.cell? ⟨b,o+j,none⟩=some u) (hbig:len<=1000000):Calls prog 98 #[.slice (some ⟨b,o,none⟩) len cap,.slice none 0 0] w fun e w' =>
  ∃ g cap,e=.returned (.slice (some ⟨g,0,none⟩) (Lib.compact (ss.mergeSort fun x y=>decide (x<=y))).length cap) /\
  w'.ownsRow w.heap.size 9 1 (.slice (some ⟨g,0,none⟩) (Lib.compact (ss.mergeSort fun x y=>decide (x<=y))).length cap) (Lib.compact (ss.mergeSort fun x y=>decide (x<=y))).length ((Lib.compact (ss.mergeSort fun x y=>decide (x<=y))).map encStr)/\Below w.heap.size w w':=by
 have HC:=Lib.hid hc
 have HL:=Lib.hid hl
 clear hc hl
 go_enter func98,ntmps98
 go_wp2_with (at_builtin; refine Aa4 HL.out HC.out hbig rfl rfl rfl rfl ?_; intro v1 w1 hown hbel hnn; obtain ⟨g,cap1,rfl,hbg,hgl,hncap,hcm,-,hH⟩:=Lib.holds_of_ownsRow hown hnn; have HO:=Lib.hid hown; have HB:=Lib.hid hbel; have HG:=Lib.hid hbg; have HS:=Lib.hid (show Calls prog 146 #[.slice (some ⟨g,0,none⟩) len cap1] w1 fun e w'=>e=.returned (.tuple #[])/\∃ n os,w'=grow (putRow encStr (Sort.ahead w1 n) g 0 (ss.mergeSort fun x y=>decide (x<=y)).toArray) os from by have:=Tryz.slices_Sort_string g 0 cap1 ss w1 hH hgl (by rw [HL.out]; omega); rw [HL.out] at this; exact this); have HH:=Lib.hid hH; have HGL:=Lib.hid hgl; clear hown hbel hnn hbg hgl hH)
 have HC2:=Lib.hid (show ∀ nn os,Calls prog 147 #[.slice (some ⟨g,0,none⟩) len cap1] (grow (putRow encStr (Sort.ahead w1 nn) g 0 (ss.mergeSort fun x y=>decide (x<=y)).toArray) os) fun e w'=>e=.returned (.slice (some ⟨g,0,none⟩) (Lib.compact (ss.mergeSort fun x y=>decide (x<=y))).length cap1)/\∃ q,w'=putRow encStr (Sort.ahead (grow (putRow encStr (Sort.ahead w1 nn) g 0 (ss.mergeSort fun x y=>decide (x<=y)).toArray) os) q) g 0 (Lib.compact (ss.mergeSort fun x y=>decide (x<=y))++List.replicate (len - (Lib.compact (ss.mergeSort fun x y=>decide (x<=y))).length) []).toArray from by
  intro nn os
  have hl2:(ss.mergeSort fun x y=>decide (x<=y)).length=len:=by rw [List.length_mergeSort]; exact HL.out
  have hH2:Holds encStr (grow (putRow encStr (Sort.ahead w1 nn) g 0 (ss.mergeSort fun x y=>decide (x<=y)).toArray) os) g 0 (ss.mergeSort fun x y=>decide (x<=y)).toArray :=
   holds_grow encStr _ os g 0 _ (by simpa [putRow,mapBlock,Sort.ahead] using HGL.out) (holds_putRow encStr _ g 0 _ _ (holds_ahead encStr w1 nn g 0 _ HH.out) (by simp))
  have:=Tryz.slices_Compact_string g 0 cap1 (ss.mergeSort fun x y=>decide (x<=y)) _ hH2 (by omega) (by omega)
  rw [hl2] at this
  exact this)
 go_wp2_with (go_at_call 146; refine HS.out.mono ?_; rintro e w2 ⟨rfl,nn,os,rfl⟩)
 go_wp2_with (go_at_call 147; refine (HC2.out nn os).mono ?_; rintro e w3 ⟨rfl,q,rfl⟩)
 go_ret
 exact Aa5 HO.out HB.out HG.out HL.out
theorem Pu {z:List (List UInt8)} (hz:z.Pairwise (·<=·)):(Lib.compact z).Pairwise (· < ·)/\∀ x,x ∈ Lib.compact z↔x ∈ z:=by
 have mono:∀ i j,i<=j->j<z.length->z.toArray[i]!<=z.toArray[j]!:=by
  intro i j hij hj
  rw [getElem!_pos z.toArray i (by simp; omega),getElem!_pos z.toArray j (by simpa using hj)]
  rcases Nat.lt_or_ge i j with h|h
  ·exact List.pairwise_iff_getElem.1 hz i j (by omega) hj h
  ·have:i=j:=by omega
   subst this
   exact List.le_refl _
 have key:∀ m,m<=z.length->(Lib.compactUpTo z.toArray m).Pairwise (· < ·)/\∀ x,x ∈ Lib.compactUpTo z.toArray m↔∃ j,j<m/\z.toArray[j]! = x:=by
  intro m
  induction m with
  | zero=>intro _; exact ⟨by simp [Lib.compactUpTo],fun x=>by simp [Lib.compactUpTo]⟩
  | succ m ih =>
   intro hm
   obtain ⟨h1,h2⟩:=ih (by omega)
   rw [Lib.compactUpTo_succ]
   cases hk:Lib.keeps z.toArray m with
   | true =>
    rw [if_pos rfl]
    refine ⟨List.pairwise_append.2 ⟨h1,by simp,fun x hx y hy=>?_⟩,fun x=>?_⟩
    ·obtain ⟨j,hj,rfl⟩:=(h2 x).1 hx
     have hy:y=z.toArray[m]!:=by simpa using hy
     subst hy
     simp only [Lib.keeps,decide_eq_true_eq] at hk
     have hne:=hk.resolve_left (by omega)
     refine List.not_le.1 fun hle=>hne ?_
     exact List.le_antisymm (List.le_trans hle (mono j (m - 1) (by omega) (by omega))) (mono (m - 1) m (by omega) (by omega))
    ·rw [List.mem_append,h2]
     constructor
     ·rintro (⟨j,hj,e⟩|h)
      ·exact ⟨j,by omega,e⟩
      ·exact ⟨m,by omega,(by simpa using h:x=_).symm⟩
     ·rintro ⟨j,hj,e⟩
      by_cases hjm:j=m
      ·subst hjm; exact .inr (by simp [e])
      ·exact .inl ⟨j,by omega,e⟩
   | false =>
    rw [if_neg (by simp),List.append_nil]
    refine ⟨h1,fun x=>?_⟩
    rw [h2]
    simp only [Lib.keeps,decide_eq_false_iff_not,not_or,Decidable.not_not] at hk
    constructor
    ·rintro ⟨j,hj,e⟩; exact ⟨j,by omega,e⟩
    ·rintro ⟨j,hj,e⟩
     by_cases hjm:j=m
     ·subst hjm; exact ⟨j - 1,by omega,by rw [<- hk.2]; exact e⟩
     ·exact ⟨j,by omega,e⟩
 obtain ⟨h1,h2⟩:=key z.length (Nat.le_refl _)
 refine ⟨h1,fun x=>(h2 x).trans ?_⟩
 constructor
 ·rintro ⟨j,hj,rfl⟩
  rw [getElem!_pos z.toArray j (by simpa using hj)]
  simp
 ·intro hx
  obtain ⟨j,hj,rfl⟩:=List.getElem_of_mem hx
  exact ⟨j,hj,by rw [getElem!_pos z.toArray j (by simpa using hj)]; simp⟩
theorem Tz (l:List ByteArray):Lib.compact ((l.map nm).mergeSort fun x y=>decide (x<=y))=(uniS l).map nm:=by
 have hz:((l.map nm).mergeSort fun x y=>decide (x<=y)).Pairwise (·<=·):=by
  have:=List.pairwise_mergeSort (le:=fun x y:List UInt8=>decide (x<=y)) (fun a b c h1 h2=>by simp only [decide_eq_true_eq] at *; exact List.le_trans h1 h2) (fun a b=>by simp only [Bool.or_eq_true,decide_eq_true_eq]; exact List.le_total a b) (l.map nm)
  exact this.imp fun h=>by simpa using h
 obtain ⟨h1,h2⟩:=Pu hz
 obtain ⟨u1,u2,-⟩:=Aa3 l
 generalize Lib.compact ((l.map nm).mergeSort fun x y=>decide (x<=y))=T at h1 h2
 have e:T=(T.map fun x=>(⟨x.toArray⟩:ByteArray)).map nm:=by
  rw [List.map_map]
  conv=>lhs; rw [<- List.map_id T]
  exact List.map_congr_left fun x _=>by simp [nm]
 rw [e]
 congr 1
 refine Adm ?_ u1 fun x=>?_
 ·unfold Inc
  rw [List.pairwise_map]
  exact h1.imp fun h=>by simpa [nm] using h
 ·rw [u2]
  have:x ∈ (T.map fun x=>(⟨x.toArray⟩:ByteArray))↔nm x ∈ T:=by
   rw [List.mem_map]
   constructor
   ·rintro ⟨y,hy,rfl⟩; simpa [nm] using hy
   ·intro h; exact ⟨nm x,h,by simp [nm]⟩
  rw [this,h2,List.mem_mergeSort,List.mem_map]
  constructor
  ·rintro ⟨y,hy,h⟩; rw [Z2 h] at hy; exact hy
  ·intro h; exact ⟨x,h,rfl⟩
theorem Aau {w:World} {A:Nat->Nat->Prop} {b sz:Nat} : ∀ {l:List ByteArray} {o j:Nat} {x:ByteArray},Ap w A b sz o (l.map strC)->nth l j=some x->sz=1/\w.cell? ⟨b,o+j,none⟩=some (.string x)
 | y :: l,o,0,x,h,hx=>by
  simp only [nth,Option.some.injEq] at hx
  subst hx
  simp only [List.map_cons,Ap,strC] at h
  obtain ⟨h0,⟨vs,h1,h2⟩,-⟩:=h
  match vs,h2 with
  | [v],h2 =>
  simp only [PRs,PR,and_true] at h2
  simp only [Lie] at h1
  have h0:sz=1:=by simpa using h0.symm
  exact ⟨h0,by rw [Nat.add_zero,h1.1,h2.1]⟩
 | y :: l,o,j+1,x,h,hx=>by
  simp only [nth] at hx
  simp only [List.map_cons,Ap] at h
  obtain ⟨h0,-,h3⟩:=h
  have h0:sz=1:=by simpa [strC] using h0.symm
  subst h0
  obtain ⟨-,h4⟩:=Aau h3 hx
  exact ⟨rfl,by rw [<- h4]; congr 2; omega⟩
theorem Ni {w:World} {A:Nat->Nat->Prop} {b:Nat} (hA:∀ o,¬ A b o):∀ (l:List ByteArray) (o:Nat),(∀ i x,nth l i=some x->w.cell? ⟨b,o+i,none⟩=some (.string x))->Ap w A b 1 o (l.map strC)
 | [],_,_=>by simp only [List.map_nil,Ap]
 | x :: l,o,h=>by
  simp only [List.map_cons,Ap]
  have h1:=h 0 x rfl
  refine ⟨rfl,⟨[.string x],⟨h1,hA _,trivial⟩,?_⟩,Ni hA l (o+1) fun i d hd=>?_⟩
  ·simp [PRs,PR,strC,Value.oneCell']
  ·have:=h (i+1) d hd
   rwa [show o+(i+1)=o+1+i from by omega] at this
theorem Yh {C:Cx} {vs:Array Value} (hs:SR C) (l:List ByteArray) (c:Cap) (hlen:l.length<=1000000) (hc:l=[]->c=.nilc) (hv:VRs C [.frz (l.map strC) c,.frz [] .nilc] vs.toList) :
  Calls prog 98 vs C.w fun e w'=>∃ v C',e=.returned v/\C'.w=w'/\Le C C'/\SR C'/\C'.S=C.S/\C'.tk=C.tk/\C'.n=C.n/\VR C' (Xt (uniS l)) v:=by
 obtain ⟨vl⟩:=vs
 match vl,hv with
 | [x,y],hv =>
 simp only [VRs,VR,and_true] at hv
 obtain ⟨⟨a,len,cap,rfl,h1,h2,h3,h4⟩,⟨a2,len2,cap2,rfl,g1,g2,g3,-⟩⟩:=hv
 have g1:len2=0:=by simpa using g1.symm
 subst g1
 obtain ⟨rfl,g3⟩:=(g3:a2=none/\cap2=0)
 subst g3
 by_cases hl:l=[]
 ·subst hl
  obtain rfl:=hc rfl
  have h1:len=0:=by simpa using h1.symm
  subst h1
  obtain ⟨rfl,h3⟩:=(h3:a=none/\cap=0)
  subst h3
  refine (Xv C.w).mono ?_
  rintro e w' ⟨a,rfl,hb⟩
  refine ⟨_,C.at w',rfl,rfl,Le.of_below hb,SR.of_below hs hb,rfl,rfl,rfl,?_⟩
  simp only [Xt,uniS,List.foldl_nil,List.map_nil,VR]
  exact ⟨a,0,0,rfl,rfl,Nat.le_refl _,trivial,.inl trivial⟩
 ·have hpos:0<l.length:=List.length_pos_iff.2 hl
  obtain ⟨b,o,sz,rfl,hr⟩:=h4.resolve_left (by simpa using hl)
  have h1:l.length=len:=by simpa using h1
  subst h1
  have hcell:∀ j u,((l.map nm).map encStr)[j]?=some u->C.w.cell? ⟨b,o+j,none⟩=some u:=by
   intro j u hj
   rw [List.map_map,List.getElem?_map,Option.map_eq_some_iff] at hj
   obtain ⟨x,hx,rfl⟩:=hj
   rw [(Aau hr (by rw [Ab]; exact hx)).2]
   simp [nm]
  refine (Xw C.w b o l.length cap (l.map nm) (by simp) hpos hcell hlen).mono ?_
  rintro e w' ⟨g,cap',rfl,hown,hb⟩
  rw [Tz] at hown ⊢
  rcases hown.2 with ⟨h0,-⟩|⟨g',cap2,cur,hv,hbase,hg,k1,k2,k3,k4⟩
  ·cases h0
  cases hv
  refine ⟨_,C.at w',rfl,rfl,Le.of_below hb,SR.of_below hs hb,rfl,rfl,rfl,?_⟩
  simp only [Xt,VR]
  refine ⟨_,_,_,rfl,by simp,by simpa using k1,trivial,.inr ⟨g,0,1,rfl,Ni (fun o ha=>?_) _ _ fun i x hx=>?_⟩⟩
  ·rcases ha with ha|ha
   ·have:=hs.avlt g o ha; omega
   ·have:=Z1 hs (show C.Mut g o from ha); omega
  ·have hx':=hx
   rw [Ab] at hx'
   have hi:i<(uniS l).length:=A7 hx
   show w'.cell? _=_
   have hq:cur.toList[i]?=some (.string x):=by
    have:(cur.toList.take (((uniS l).map nm).length*1))[i]?=some (.string x):=by
     rw [k4,List.map_map,List.getElem?_map,hx']
     simp [nm]
    rw [List.getElem?_take] at this
    split at this
    ·exact this
    ·simp at this
   simp only [World.cell?,hg,Nat.zero_add]
   simpa using hq
end
section
open Go
section
def eqV:Value->Value->Bool
 | .int k n,.int k' n'=>decide (k=k') && decide (n=n')
 | .bool a,.bool b=>decide (a=b)
 | .string s,.string t=>sEq s t
 | _,_=>false
theorem Agc {a b:Value} (h:eqV a b=true):a=b:=by
 unfold eqV at h
 split at h
 ·simp at h; rw [h.1,h.2]
 ·simp at h; rw [h]
 ·rw [Aaj] at h
  congr 1
  simpa using h
 ·cases h
def eqK:Cap->Cap->Bool
 | .unk,.unk=>true
 | .tight,.tight=>true
 | .tok a b c,.tok a' b' c'=>decide (a=a') && decide (b=b') && decide (c=c')
 | .nilc,.nilc=>true
 | .nl,.nl=>true
 | .nn,.nn=>true
 | _,_=>false
theorem Agb {a b:Cap} (h:eqK a b=true):a=b:=by
 unfold eqK at h
 split at h <;> simp_all
mutual
def eqA:AV->AV->Bool
 | .bot,.bot=>true
 | .prim v,.prim v'=>eqV v v'
 | .frz es c,.frz es' c'=>eqMM es es' && eqK c c'
 | .fptr cs,.fptr cs'=>eqM cs cs'
 | .agg cs,.agg cs'=>eqM cs cs'
 | .tup cs,.tup cs'=>eqM cs cs'
 | .ref a b c,.ref a' b' c'=>decide (a=a') && decide (b=b') && decide (c=c')
 | .sref a b c d e,.sref a' b' c' d' e'=>decide (a=a') && decide (b=b') && decide (c=c') && decide (d=d') && decide (e=e')
 | .fn f cs,.fn f' cs'=>decide (f=f') && eqM cs cs'
 | .bfn f cs,.bfn f' cs'=>decide (f=f') && eqM cs cs'
 | .ifc t v,.ifc t' v'=>decide (t=t') && eqA v v'
 | .mfn t m v,.mfn t' m' v'=>decide (t=t') && decide (m=m') && eqA v v'
 | .lit n cs,.lit n' cs'=>decide (n=n') && eqM cs cs'
 | _,_=>false
def eqM:List AV->List AV->Bool
 | [],[]=>true
 | x :: l,y :: m=>eqA x y && eqM l m
 | _,_=>false
def eqMM:List (List AV)->List (List AV)->Bool
 | [],[]=>true
 | x :: l,y :: m=>eqM x y && eqMM l m
 | _,_=>false
end
mutual
theorem Rg:∀ {a b:AV},eqA a b=true->a=b
 | .bot,b,h=>by cases b <;> simp [eqA] at h ⊢
 | .prim v,b,h=>by cases b <;> simp [eqA] at h ⊢; exact Agc h
 | .frz es c,b,h=>by cases b <;> simp [eqA] at h ⊢; exact ⟨Za h.1,Agb h.2⟩
 | .fptr cs,b,h=>by cases b <;> simp [eqA] at h ⊢; exact H5 h
 | .agg cs,b,h=>by cases b <;> simp [eqA] at h ⊢; exact H5 h
 | .tup cs,b,h=>by cases b <;> simp [eqA] at h ⊢; exact H5 h
 | .ref ..,b,h=>by cases b <;> simp [eqA] at h ⊢; exact ⟨h.1.1,h.1.2,h.2⟩
 | .sref ..,b,h=>by cases b <;> simp [eqA] at h ⊢; exact ⟨h.1.1.1.1,h.1.1.1.2,h.1.1.2,h.1.2,h.2⟩
 | .fn f cs,b,h=>by cases b <;> simp [eqA] at h ⊢; exact ⟨h.1,H5 h.2⟩
 | .bfn f cs,b,h=>by cases b <;> simp [eqA] at h ⊢; exact ⟨h.1,H5 h.2⟩
 | .ifc t v,b,h=>by cases b <;> simp [eqA] at h ⊢; exact ⟨h.1,Rg h.2⟩
 | .mfn t m v,b,h=>by cases b <;> simp [eqA] at h ⊢; exact ⟨h.1.1,h.1.2,Rg h.2⟩
 | .lit n cs,b,h=>by cases b <;> simp [eqA] at h ⊢; exact ⟨h.1,H5 h.2⟩
theorem H5:∀ {a b:List AV},eqM a b=true->a=b
 | [],b,h=>by cases b <;> simp [eqM] at h ⊢
 | x :: l,b,h=>by cases b <;> simp [eqM] at h ⊢; exact ⟨Rg h.1,H5 h.2⟩
theorem Za:∀ {a b:List (List AV)},eqMM a b=true->a=b
 | [],b,h=>by cases b <;> simp [eqMM] at h ⊢
 | x :: l,b,h=>by cases b <;> simp [eqMM] at h ⊢; exact ⟨H5 h.1,Za h.2⟩
end
def isB1:List AV->Bool
 | [.prim (.bool _)]=>true
 | _=>false
theorem Zq {l:List AV} (h:isB1 l=true):∃ b,l=[.prim (.bool b)]:=by
 unfold isB1 at h
 split at h
 ·exact ⟨_,rfl⟩
 ·cases h
def gOB:List Ent->List Ent->Bool
 | [],[]=>true
 | e :: S,e' :: S'=>decide (e.ep=e'.ep) && (eqM e.cells e'.cells || (isB1 e.cells && isB1 e'.cells)) && gOB S S'
 | _,_=>false
theorem Adl:∀ {S S':List Ent},gOB S S'=true->P2 S S'
 | [],[],_=>⟨rfl,fun _=>.inl rfl⟩
 | [],_ :: _,h=>by simp [gOB] at h
 | _ :: _,[],h=>by simp [gOB] at h
 | e :: S,e' :: S',h=>by
  simp only [gOB,Bool.and_eq_true,Bool.or_eq_true,decide_eq_true_eq] at h
  obtain ⟨⟨h1,h2⟩,h3⟩:=h
  obtain ⟨g1,g2⟩:=Adl h3
  refine ⟨by simp [g1],fun i=>?_⟩
  cases i with
  | zero =>
   obtain ⟨ep,cs⟩:=e
   obtain ⟨ep',cs'⟩:=e'
   simp only at h1 h2
   subst h1
   rcases h2 with h2|⟨h2,h4⟩
   ·left; rw [H5 h2]; rfl
   ·obtain ⟨b,rfl⟩:=Zq h2
    obtain ⟨b',rfl⟩:=Zq h4
    exact .inr ⟨ep,b,b',rfl,rfl⟩
  | succ i=>exact g2 i
/- slots in a tree -/
inductive Pat where|z|o (p:Pat)|e (p:Pat)
inductive Trs where|l|n (v:AV) (a b:Trs)
def paF:Nat->Nat->Pat
 | 0,_=>.z
 | f+1,k=>if k=0 then .z else if k % 2=1 then .o (paF f (k / 2)) else .e (paF f (k / 2 - 1))
def pth (k:Nat):Pat:=paF k k
theorem Ul:∀ {f g k j:Nat},k<=f->j<=g->paF f k=paF g j->k=j
 | 0,g,k,j,h1,h2,h=>by
  obtain rfl:k=0:=by omega
  cases g with
  | zero=>omega
  | succ g =>
   simp only [paF] at h
   split at h
   ·omega
   ·split at h <;> cases h
 | f+1,0,k,j,h1,h2,h=>by
  obtain rfl:j=0:=by omega
  simp only [paF] at h
  split at h
  ·omega
  ·split at h <;> cases h
 | f+1,g+1,k,j,h1,h2,h=>by
  simp only [paF] at h
  by_cases hk:k=0
  ·by_cases hj:j=0
   ·omega
   ·rw [if_pos hk,if_neg hj] at h; split at h <;> cases h
  ·rw [if_neg hk] at h
   by_cases hj:j=0
   ·rw [if_pos hj] at h; split at h <;> cases h
   ·rw [if_neg hj] at h
    split at h
    ·split at h
     ·have:=Ul (by omega) (by omega) (Pat.o.inj h); omega
     ·cases h
    ·split at h
     ·cases h
     ·have:=Ul (by omega) (by omega) (Pat.e.inj h); omega
theorem Aaa {k j:Nat} (h:pth k=pth j):k=j:=Ul (Nat.le_refl _) (Nat.le_refl _) h
noncomputable def gT (p:Pat):Trs->AV :=
 Pat.rec (motive:=fun _=>Trs->AV) (fun t=>Trs.rec (motive:=fun _=>AV) .bot (fun v _ _ _ _=>v) t)
  (fun _ ih t=>ih (Trs.rec (motive:=fun _=>Trs) .l (fun _ a _ _ _=>a) t)) (fun _ ih t=>ih (Trs.rec (motive:=fun _=>Trs) .l (fun _ _ b _ _=>b) t)) p
noncomputable def sT (v:AV) (p:Pat):Trs->Trs :=
 Pat.rec (motive:=fun _=>Trs->Trs) (fun t=>Trs.rec (motive:=fun _=>Trs) (.n v .l .l) (fun _ a b _ _=>.n v a b) t)
  (fun _ ih t=>Trs.rec (motive:=fun _=>Trs) (.n .bot (ih .l) .l) (fun u a b _ _=>.n u (ih a) b) t) (fun _ ih t=>Trs.rec (motive:=fun _=>Trs) (.n .bot .l (ih .l)) (fun u a b _ _=>.n u a (ih b)) t) p
theorem gT_l:∀ {p:Pat},gT p .l=.bot
 | .z=>rfl
 | .o p=>gT_l (p:=p)
 | .e p=>gT_l (p:=p)
theorem Kk {v:AV} : ∀ {p:Pat} {t:Trs},gT p (sT v p t)=v
 | .z,.l=>rfl
 | .z,.n _ _ _=>rfl
 | .o p,.l=>Kk (p:=p) (t:=.l)
 | .o p,.n _ a _=>Kk (p:=p) (t:=a)
 | .e p,.l=>Kk (p:=p) (t:=.l)
 | .e p,.n _ _ b=>Kk (p:=p) (t:=b)
theorem Wy {v:AV} : ∀ {p q:Pat} {t:Trs},q≠p->gT q (sT v p t)=gT q t
 | .z,.z,_,h=>absurd rfl h
 | .z,.o q,.l,_=>rfl
 | .z,.o q,.n _ _ _,_=>rfl
 | .z,.e q,.l,_=>rfl
 | .z,.e q,.n _ _ _,_=>rfl
 | .o p,.z,.l,_=>rfl
 | .o p,.z,.n _ _ _,_=>rfl
 | .o p,.o q,.l,h=>(Wy (p:=p) (q:=q) (t:=.l) fun e=>h (e ▸ rfl))
 | .o p,.o q,.n _ a _,h=>(Wy (p:=p) (q:=q) (t:=a) fun e=>h (e ▸ rfl))
 | .o p,.e q,.l,_=>rfl
 | .o p,.e q,.n _ _ _,_=>rfl
 | .e p,.z,.l,_=>rfl
 | .e p,.z,.n _ _ _,_=>rfl
 | .e p,.o q,.l,_=>rfl
 | .e p,.o q,.n _ _ _,_=>rfl
 | .e p,.e q,.l,h=>(Wy (p:=p) (q:=q) (t:=.l) fun e=>h (e ▸ rfl))
 | .e p,.e q,.n _ _ b,h=>(Wy (p:=p) (q:=q) (t:=b) fun e=>h (e ▸ rfl))
noncomputable def opT (t:Trs):Operand->AV
 | .tmp k=>gT (pth k) t
 | .const v=>cst v
 | .global _=>.bot
 | .func f=>.fn f []
structure Rl (N:Nat) (T:List AV) (t:Trs):Prop where
 len:T.length=N
 get:∀ k,getT T k=gT (pth k) t
theorem Vr {v:AV} : ∀ {T:List AV} {d k:Nat},d<T.length->getT (put T d v) k=if k=d then v else getT T k
 | [],d,k,h=>absurd h (Nat.not_lt_zero _)
 | _ :: T,0,0,_=>rfl
 | _ :: T,0,k+1,_=>by simp [put,getT]
 | _ :: T,d+1,0,_=>by simp [put,getT]
 | _ :: T,d+1,k+1,h=>by
  simp only [put,getT]
  rw [Vr (by simpa using h)]
  simp
theorem Rl.op {N:Nat} {T:List AV} {t:Trs} (h:Rl N T t):opv T=opT t:=funext fun o=>by cases o <;> simp [opv,opT,h.get]
def dsT (N:Nat):Option Tmp->Option (Option Pat)
 | none=>some none
 | some d=>bif Nat.blt d N then some (some (pth d)) else none
noncomputable def pT (q:Option Pat) (v:AV) (t:Trs):Trs:=match q with|none=>t|some p=>sT v p t
theorem Rl.put {N:Nat} {T:List AV} {t:Trs} (h:Rl N T t) {d:Option Tmp} {q:Option Pat} (hd:dsT N d=some q) {v:AV} : Rl N (putT T d v) (pT q v t):=by
 cases d with
 | none=>simp only [dsT,Option.some.injEq] at hd; subst hd; exact h
 | some d =>
  simp only [dsT] at hd
  cases hlt:Nat.blt d N with
  | false=>rw [hlt] at hd; cases hd
  | true =>
   rw [hlt] at hd
   simp only [cond_true,Option.some.injEq] at hd
   subst hd
   have hd:d<T.length:=by rw [h.len]; simpa using hlt
   refine ⟨by simp only [putT,A6,h.len],fun k=>?_⟩
   simp only [putT,pT]
   rw [Vr hd]
   split
   ·rename_i e; subst e; rw [Kk]
   ·rename_i e; rw [Wy fun e'=>e (Aaa e'),h.get]
noncomputable def tlF (t:Trs):Nat->Nat->List AV
 | 0,_=>[]
 | n+1,k=>gT (pth k) t :: tlF t n (k+1)
theorem Zf:∀ {T U:List AV},T.length=U.length->(∀ k,getT T k=getT U k)->T=U
 | [],[],_,_=>rfl
 | _ :: T,_ :: U,h,g=>by
  have h0:=g 0
  simp only [getT] at h0
  rw [h0,Zf (by simpa using h) fun k=>g (k+1)]
theorem Aa0 {t:Trs} : ∀ {n k j:Nat},j<n->getT (tlF t n k) j=gT (pth (k+j)) t
 | n+1,k,0,_=>rfl
 | n+1,k,j+1,h=>by
  simp only [tlF,getT]
  rw [Aa0 (by omega),show k+1+j=k+(j+1) by omega]
theorem Ut {t:Trs} : ∀ {n k:Nat},(tlF t n k).length=n
 | 0,_=>rfl
 | n+1,k=>by simp [tlF,Ut]
theorem Lb:∀ {T:List AV} {k:Nat},T.length<=k->getT T k=.bot
 | [],_,_=>rfl
 | _ :: T,0,h=>by simp at h
 | _ :: T,k+1,h=>Lb (T:=T) (by simpa using h)
theorem Rl.list {N:Nat} {T:List AV} {t:Trs} (h:Rl N T t):tlF t N 0=T:=by
 refine Zf (by rw [Ut,h.len]) fun k=>?_
 by_cases hk:k<N
 ·rw [Aa0 hk,h.get,Nat.zero_add]
 ·rw [Lb (by rw [Ut]; omega),Lb (by rw [h.len]; omega)]
noncomputable def iniT:Nat->List AV->Trs->Trs
 | _,[],t=>t
 | k,a :: l,t=>iniT (k+1) l (sT a (pth k) t)
theorem Vv:∀ {l:List AV} {k j:Nat} {t:Trs},gT (pth j) (iniT k l t)=if k<=j/\j<k+l.length then getT l (j - k) else gT (pth j) t
 | [],k,j,t=>by rw [if_neg (by simp only [List.length_nil]; omega)]; rfl
 | a :: l,k,j,t=>by
  simp only [iniT,List.length_cons]
  rw [Vv]
  by_cases h1:k+1<=j/\j<k+1+l.length
  ·rw [if_pos h1,if_pos (by omega),show j - k=(j - (k+1))+1 by omega]; rfl
  ·rw [if_neg h1]
   by_cases h2:j=k
   ·subst h2; rw [Kk,if_pos (by omega),Nat.sub_self]; rfl
   ·rw [Wy fun e=>h2 (Aaa e),if_neg (by omega)]
theorem Vp {b:Nat} : ∀ {l:List AV} {k:Nat},getT (l++List.replicate b .bot) k=getT l k
 | [],k=>by
  induction b generalizing k with
  | zero=>rfl
  | succ b ih=>cases k with
   | zero=>rfl
   | succ k=>exact (ih (k:=k))
 | _ :: l,0=>rfl
 | _ :: l,k+1=>Vp (l:=l)
theorem Rl.ini {args:List AV} {b:Nat} : Rl (args.length+b) (args++List.replicate b .bot) (iniT 0 args .l):=by
 refine ⟨by simp,fun k=>?_⟩
 rw [Vp,Vv]
 split
 ·rfl
 ·rw [gT_l,Lb (by omega)]
/- operations -/
structure StT where
 t:Trs
 S:List Ent
 tk:List Nat
 n:Nat
abbrev ResT:=Option (AV × List Ent × List Nat × Nat)
inductive Clo where|bad|mk (f:Trs->List Ent->List Nat->Nat->ResT)
variable {P:Program}
noncomputable def bO {α β:Type} (x:Option α) (f:α->Option β):Option β:=Option.rec (motive:=fun _=>Option β) none (fun a=>f a) x
noncomputable def Af0 (P:Program) (call:Ak) (c:Call):Clo :=
 match c.callee with
 | .invoke x m=>.mk fun t S tk n=>match opT t x with
  | .ifc ty v=>bO (mRow P ty m) fun f=>call f (v :: c.args.toList.map (opT t)) S tk n
  | _=>none
 | .value (.func f)=>.mk fun t S tk n=>call f (c.args.toList.map (opT t)) S tk n
 | .value x=>.mk fun t S tk n=>match opT t x with
  | .fn f caps=>call f (c.args.toList.map (opT t)++caps) S tk n
  | .bfn f first=>call f (first++c.args.toList.map (opT t)) S tk n
  | _=>none
 | _=>.bad
noncomputable def apT1 [Globs] (P:Program) (o:Oper) (c:Call):Clo :=
 match c.args.toList,c.argTypes.toList with
 | [x,y],[t,t']=>bif Globs.own o.dst o.type then (if t=t' then .mk fun m S tk n=>bO (apO P t (opT m x) (opT m y) S n) fun a=>some (a.1,a.2.1,tk,a.2.2) else .bad)
  else if t=t' then .mk fun m S tk n=>bO (apB1 P t (opT m x) (opT m y) tk S) fun a=>some (a.1,S,a.2,n)
  else .mk fun m S tk n=>bO (apS P t t' (opT m x) (opT m y) tk) fun a=>some (a.1,S,a.2,n)
 | _,_=>.bad
noncomputable def clo [Globs] (P:Program) (call:Ak) (o:Oper):Clo :=
 match o.op with
 | .move x=>.mk fun t S tk n=>some (opT t x,S,tk,n)
 | .assign x=>.mk fun t S tk n=>some (opT t x,S,tk,n)
 | .load ty a=>.mk fun t S tk n=>bO (ldA P ty (opT t a) S) fun v=>some (v,S,tk,n)
 | .store ty a v=>.mk fun t S tk n=>bO (stA P ty (opT t a) (opT t v) S) fun S=>some (.prim undef,S,tk,n)
 | .binOp b ty x y _=>.mk fun t S tk n=>bO (aBin P b ty (opT t x) (opT t y)) fun v=>some (v,S,tk,n)
 | .indexAddr ty x i=>.mk fun t S tk n=>bO (idxA P ty (opT t x) (opT t i)) fun v=>some (v,S,tk,n)
 | .fieldAddr ty x k=>.mk fun t S tk n=>bO (fldA P ty (opT t x) k) fun v=>some (v,S,tk,n)
 | .alloc ty=>.mk fun _ S tk n=>bO (Ae P ty) fun cs=>some (.ref S.length n 0,S++[⟨n,cs⟩],tk,n+1)
 | .box _ x=>.mk fun t S tk n=>bO (cellsOf (opT t x)) fun cs=>some (.ref S.length n 0,S++[⟨n,cs⟩],tk,n+1)
 | .makeSlice ty l c=>bif L2 o l then .mk fun t S tk n=>bO (mkA P ty (opT t l) (opT t c)) fun a=>some (mkV (len0 l) tk.length a.1 a.2.1 a.2.2,S,tk++[0],n)
  else .mk fun t S tk n=>bO (mkA P ty (opT t l) (opT t c)) fun a=>some (.sref S.length n 0 a.1 a.2.1,S++[⟨n,a.2.2⟩],tk,n+1)
 | .call c=>(match c.callee with
  | .builtin .append=>apT1 P o c
  | .builtin .copy=>(match c.args.toList,c.argTypes.toList with
   | [d,s],[ty,_]=>.mk fun t S tk n=>bO (cpA P ty (opT t d) (opT t s) S) fun a=>some (AV.int (a.1:Int),a.2,tk,n)
   | _,_=>.bad)
  | .builtin _=>.mk fun t S tk n=>bO (evQ P o (opT t)) fun v=>some (v,S,tk,n)
  | _=>Af0 P call c)
 | _=>.mk fun t S tk n=>bO (evQ P o (opT t)) fun v=>some (v,S,tk,n)
theorem Af5 [Globs] {call:Ak} {o:Oper} {f:Trs->List Ent->List Nat->Nat->ResT} (hf:clo P call o=.mk f) {N:Nat} {T:List AV} {t:Trs} (hr:Rl N T t) {S S':List Ent} {tk tk':List Nat} {n n':Nat} {v:AV} (h:f t S tk n=some (v,S',tk',n')):evO P call o ⟨T,S,tk,n⟩=some (v,⟨T,S',tk',n'⟩):=by
 have hop:=hr.op
 have key:∀ {α:Type} {x:Option α} {g:α->ResT} {k:α->AV × St},(∀ a,g a=some (v,S',tk',n')->k a=(v,⟨T,S',tk',n'⟩))->bO x g=some (v,S',tk',n')->x.map k=some (v,⟨T,S',tk',n'⟩):=by
  intro α x g k hg hx
  cases x with
  | none=>cases hx
  | some a=>rw [Option.map_some,hg a hx]
 have hq:∀ {x:Option AV},evQ P o (opT t)=x->bO x (fun v=>some (v,S,tk,n))=some (v,S',tk',n')->(evQ P o (opT t)).map (fun v=>(v,(⟨T,S,tk,n⟩:St)))=some (v,⟨T,S',tk',n'⟩):=by
  intro x hx h
  rw [hx]
  exact key (by rintro a ⟨⟩; rfl) h
 have hcall:∀ {f args},call f args S tk n=some (v,S',tk',n')->(call f args S tk n).map (fun x=>(x.1,(⟨T,x.2.1,x.2.2.1,x.2.2.2⟩:St)))=some (v,⟨T,S',tk',n'⟩):=fun h=>by rw [h]; rfl
 unfold clo at hf
 unfold evO
 split at hf
 case h_1 x ho=>rw [ho]; cases hf; simp only [hop]; exact hq (x:=some (opT t x)) (by unfold evQ; rw [ho]) h
 case h_2 x ho=>rw [ho]; cases hf; simp only [hop]; exact hq (x:=some (opT t x)) (by unfold evQ; rw [ho]) h
 case h_3 ho=>rw [ho]; cases hf; simp only [hop]; exact key (by rintro a ⟨⟩; rfl) h
 case h_4 ho=>rw [ho]; cases hf; simp only [hop]; exact key (by rintro a ⟨⟩; rfl) h
 case h_5 b ty x y _ ho=>rw [ho]; cases hf; simp only [hop]; exact hq (x:=aBin P b ty (opT t x) (opT t y)) (by unfold evQ; rw [ho]) h
 case h_6 ty x i ho=>rw [ho]; cases hf; simp only [hop]; exact hq (x:=idxA P ty (opT t x) (opT t i)) (by unfold evQ; rw [ho]) h
 case h_7 ty x k ho=>rw [ho]; cases hf; simp only [hop]; exact hq (x:=fldA P ty (opT t x) k) (by unfold evQ; rw [ho]) h
 case h_8 ho=>rw [ho]; cases hf; simp only; exact key (by rintro a ⟨⟩; rfl) h
 case h_9 ho=>rw [ho]; cases hf; simp only [hop]; exact key (by rintro a ⟨⟩; rfl) h
 case h_10 ty l c ho =>
  rw [ho]
  cases hg:L2 o l with
  | true=>rw [hg] at hf; cases hf; simp only [hop,hg]; exact key (by rintro ⟨a,b,c⟩ ⟨⟩; rfl) h
  | false=>rw [hg] at hf; cases hf; simp only [hop,hg]; exact key (by rintro ⟨a,b,c⟩ ⟨⟩; rfl) h
 case h_11 c ho =>
  rw [ho]
  simp only at hf ⊢
  split at hf
  case h_1 hc =>
   rw [hc]
   unfold apT1 at hf
   simp only
   split at hf
   ·rename_i x y t1 t2 e1 e2
    rw [e1,e2]
    simp only [List.map_cons,List.map_nil,hop]
    cases hg:(Globs.own o.dst o.type:Bool) with
    | true =>
     rw [hg] at hf
     simp only [cond_true] at hf
     split at hf
     ·rename_i e; cases hf; rw [if_pos rfl,if_pos e]; exact key (by rintro ⟨a,b,c⟩ ⟨⟩; rfl) h
     ·cases hf
    | false =>
     rw [hg] at hf
     simp only [cond_false] at hf
     rw [if_neg (by simp)]
     split at hf
     ·rename_i e; cases hf; rw [if_pos e]; exact key (by rintro ⟨a,b⟩ ⟨⟩; rfl) h
     ·rename_i e; cases hf; rw [if_neg e]; exact key (by rintro ⟨a,b⟩ ⟨⟩; rfl) h
   ·cases hf
  case h_2 hc =>
   rw [hc]
   simp only
   split at hf
   ·rename_i x y t1 t2 e1 e2
    rw [e1,e2]
    cases hf
    simp only [List.map_cons,List.map_nil,hop]
    exact key (by rintro ⟨a,b⟩ ⟨⟩; rfl) h
   ·cases hf
  case h_3 b b1 b2 hc =>
   cases hf
   split
   case h_1 e=>exact (b1 (Callee.builtin.inj (hc.symm.trans e))).elim
   case h_2 e=>exact (b2 (Callee.builtin.inj (hc.symm.trans e))).elim
   case h_3 e=>simp only [hop]; exact hq rfl h
   case h_4 e1 e2 e3=>exact (e3 _ hc).elim
  case h_4 b1 b2 b3 =>
   split
   case h_1 e=>exact (b1 e).elim
   case h_2 e=>exact (b2 e).elim
   case h_3 e=>exact (b3 _ e).elim
   case h_4 e1 e2 e3 =>
    unfold Af0 at hf
    unfold B3
    simp only [hop]
    split at hf
    case h_1 x m hc =>
     rw [hc]
     cases hf
     dsimp only at h ⊢
     cases hx:opT t x <;> rw [hx] at h
     case ifc ty u =>
      dsimp only at h ⊢
      cases hm:mRow P ty m with
      | none=>rw [hm] at h; cases h
      | some f=>rw [hm] at h; simp only [Option.map_some]; exact hcall h
     all_goals (cases h; done)
    case h_2 f hc =>
     rw [hc]
     cases hf
     simp only [opT,List.append_nil]
     exact hcall h
    case h_3 x hx hc =>
     rw [hc]
     cases hf
     dsimp only at h ⊢
     cases hx:opT t x <;> rw [hx] at h
     case fn=>exact hcall h
     case bfn=>exact hcall h
     all_goals (cases h; done)
    case h_4=>cases hf
 case h_12 a1 a2 a3 a4 a5 a6 a7 a8 a9 a10 a11 =>
  cases hf
  split
  case h_7=>simp only [hop]; exact hq rfl h
  all_goals (rename_i ho; first|exact (a3 _ _ ho).elim|exact (a4 _ _ _ ho).elim|exact (a8 _ ho).elim|exact (a9 _ _ ho).elim|exact (a10 _ _ _ ho).elim|exact (a11 _ ho).elim)
inductive Gua where|no|sl (p:Pat) (w:Bool)|bad
def gdT (all:List Oper) (o:Oper):Gua :=
 match o.guard with
 | none=>.no
 | some (g,w)=>match (nth all g).bind (·.dst) with|none=>.bad|some d=>.sl (pth d) w
noncomputable def wnT (g:Gua) (t:Trs):Option Bool :=
 match g with
 | .no=>some true
 | .sl p w=>(match gT p t with|.prim (.bool b)=>some (b == w)|.prim (.tuple _)=>some false|_=>none)
 | .bad=>none
theorem Adv {N:Nat} {T:List AV} {t:Trs} (hr:Rl N T t) {all:List Oper} {o:Oper} : wnT (gdT all o) t=Ea all T o:=by
 unfold gdT Ea
 cases o.guard with
 | none=>rfl
 | some x =>
  obtain ⟨g,w⟩:=x
  simp only
  cases (nth all g).bind (·.dst) with
  | none=>rfl
  | some d=>simp only [wnT,hr.get]; rfl
inductive Chq where|yes|nb|x
def ckT [Globs] (o:Oper):Chq:=bif Globs.dr then (bif xOp o then .x else bif isLd o then .nb else .yes) else .yes
noncomputable def smT (P:Program) (N:Nat) (t:Trs) (S':List Ent) (q:TypeId × Operand × Option Tmp × Bool):Bool :=
 q.2.2.2 && match q.2.2.1 with
  | none=>false
  | some d=>Nat.blt d N && match ldA P q.1 (opT t q.2.1) S' with|some v=>eqA v (gT (pth d) t)|none=>false
noncomputable def cxT [Globs] (P:Program) (N:Nat) (all:List Oper) (o:Oper) (t:Trs) (S S':List Ent):Bool :=
 (!lkOp o || gOB S S') && (!anOp o || (Nat.ble S.length S'.length && (!o.dst.isSome || (loadsB all o.dst).all (smT P N t S'))))
noncomputable def okC [Globs] (P:Program) (N:Nat) (all:List Oper) (o:Oper) (k:Chq) (t:Trs) (v:AV) (S S':List Ent):Bool :=
 match k with|.yes=>true|.nb=>!isB v|.x=>cxT P N all o t S S'
theorem Agk [Globs] {N:Nat} {T:List AV} {t:Trs} (hr:Rl N T t) {all:List Oper} {o:Oper} {v:AV} {S S':List Ent} {tk tk':List Nat} {n n':Nat} (h:okC P N all o (ckT o) t v S S'=true):chkO P all o ⟨T,S,tk,n⟩ v ⟨T,S',tk',n'⟩=true:=by
 unfold ckT at h
 unfold chkO
 cases h1:(Globs.dr:Bool)
 ·rfl
 ·rw [h1] at h
  cases h2:xOp o
  ·rw [h2] at h
   cases h3:isLd o
   ·rfl
   ·rw [h3] at h; exact h
  ·rw [h2] at h
   simp only [cond_true,okC] at h ⊢
   refine @decide_eq_true _ (Classical.propDecidable _) ?_
   unfold cxT at h
   simp only [Bool.and_eq_true,Bool.or_eq_true,Bool.not_eq_true',List.all_eq_true] at h
   obtain ⟨h1,h2⟩:=h
   refine ⟨fun h=>?_,fun h=>?_⟩
   ·rcases h1 with h1|h1
    ·rw [h1] at h; cases h
    ·exact Adl h1
   ·rcases h2 with h2|⟨h2,h3⟩
    ·rw [h2] at h; cases h
    ·refine ⟨Nat.le_of_ble_eq_true h2,fun hs q hq=>?_⟩
     rcases h3 with h3|h3
     ·rw [h3] at hs; cases hs
     ·have:=h3 q hq
      unfold smT at this
      rw [Bool.and_eq_true] at this
      obtain ⟨g1,g⟩:=this
      split at g
      ·cases g
      ·rename_i d hd
       rw [Bool.and_eq_true] at g
       obtain ⟨g2,g⟩:=g
       split at g
       ·rename_i u hu
        refine ⟨g1,d,hd,by rw [hr.len]; simpa using g2,?_⟩
        rw [hr.op,hu,Rg g,hr.get]
       ·cases g
noncomputable def stepT [Globs] (P:Program) (call:Ak) (all:List Oper) (N:Nat) (o:Oper) (ih:StT->Option StT) (st:StT):Option StT :=
 match st with
 | ⟨t,S,tk,n⟩=>match wnT (gdT all o) t,dsT N o.dst with
  | some false,some q=>ih ⟨pT q (.prim undef) t,S,tk,n⟩
  | some true,some q=>(match clo P call o with
   | .mk f=>(match f t S tk n with
    | some (v,S',tk',n')=>bif okC P N all o (ckT o) t v S S' then ih ⟨pT q v t,S',tk',n'⟩ else none
    | none=>none)
   | .bad=>none)
  | _,_=>none
noncomputable def opsT [Globs] (P:Program) (call:Ak) (all:List Oper) (N:Nat) (L:List Oper):StT->Option StT :=
 List.rec (motive:=fun _=>StT->Option StT) (fun st=>some st) (fun o _ ih st=>stepT P call all N o ih st) L
def StT.at (s:StT) (T:List AV):St:=⟨T,s.S,s.tk,s.n⟩
theorem Qa [Globs] {call:Ak} {all:List Oper} {N:Nat} : ∀ {L:List Oper} {st st':StT} {T:List AV},Rl N T st.t->opsT P call all N L st=some st'->∃ T',Rl N T' st'.t/\evOs P call all L (st.at T)=some (st'.at T')
 | [],st,st',T,hr,h=>by
  cases h; exact ⟨T,hr,rfl⟩
 | o :: L,⟨t,S,tk,n⟩,st',T,hr,h=>by
  change stepT P call all N o (opsT P call all N L) ⟨t,S,tk,n⟩=some st' at h
  simp only [stepT] at h
  show ∃ T',_/\evOs P call all (o :: L) ⟨T,S,tk,n⟩=_
  simp only [evOs]
  split at h
  ·rename_i q hw hd
   rw [Adv hr] at hw
   obtain ⟨T',h1,h2⟩:=Qa (T:=putT T o.dst (.prim undef)) (hr.put hd) h
   exact ⟨T',h1,by rw [hw]; exact h2⟩
  ·rename_i q hw hd
   rw [Adv hr] at hw
   split at h
   ·rename_i f hf
    split at h
    ·rename_i v S' tk' n' hv
     cases hk:okC P N all o (ckT o) t v S S' with
     | false=>rw [hk] at h; cases h
     | true =>
      rw [hk] at h
      obtain ⟨T',h1,h2⟩:=Qa (T:=putT T o.dst v) (hr.put hd) h
      refine ⟨T',h1,?_⟩
      rw [hw]
      simp only
      rw [Af5 hf hr hv]
      simp only
      rw [if_pos (Agk hr hk)]
      exact h2
    ·cases h
   ·cases h
  ·cases h
/- code -/
noncomputable def drQ [Globs] (L:List Oper):Bool:=Ar ⟨[],[],[],0⟩ L
theorem Aex {ops:Array Oper} {i:Nat} {o:Oper} : N1 ⟨[],[],[],0⟩ ops i o=none:=by
 unfold N1
 split
 ·split
  ·rfl
  ·rw [List.findSome?_eq_none_iff]
   intro m _
   split
   ·split
    ·split <;> rfl
    ·rfl
   ·rfl
 ·rfl
theorem Aga [Globs] {st:St} {L:List Oper} (h:drQ L=true):Ar st L=true:=by
 unfold drQ Ar at h
 unfold Ar
 unfold Py at h ⊢
 rw [List.all_eq_true] at h ⊢
 intro i hi
 have:=h i hi
 split at this
 ·cases this
 ·rename_i o ho
  simp only [Bool.and_eq_true,List.all_eq_true] at this ⊢
  refine ⟨this.1,fun j hj=>?_⟩
  have g:=this.2 j hj
  split at g
  ·cases g
  ·rename_i p hp
   have e:∀ i o p,@H2 (gM (mdOf L)) ⟨[],[],[],0⟩ L.toArray i o p=false:=fun i o p=>by unfold H2; rw [Aex]
   simp only [e,Bool.or_eq_true,Bool.and_eq_true] at g ⊢
   rcases g with ((g|g)|g)|g
   ·exact .inl (.inl (.inl g))
   ·exact .inl (.inl (.inr g))
   ·refine .inl (.inr ⟨g.1,?_⟩)
    have g:=g.2
    split at g
    ·cases g
    ·rename_i hn
     rw [if_neg hn]
     simp only [Bool.or_false] at g
     rw [g]; rfl
   ·exact .inr g
noncomputable def okT [Globs] (N:Nat) (L:List Oper) (st:StT):Bool:=drQ L || Ar ⟨tlF st.t N 0,st.S,st.tk,st.n⟩ L
theorem Agl [Globs] {N:Nat} {L:List Oper} {st:StT} {T:List AV} (hr:Rl N T st.t) (h:okT N L st=true):Ar (st.at T) L=true:=by
 unfold okT at h
 rw [Bool.or_eq_true] at h
 rcases h with h|h
 ·exact Aga h
 ·rwa [hr.list] at h
inductive Reg where|run (L:List Oper)|split (a:List Oper) (o:Oper)|late (a:List Oper) (al o:Oper)|draw (L:List Oper)
def rgT [Globs] (ops:Array Oper) (draw:Bool):Reg :=
 bif draw then (match Db ops.toList with
  | some (a,o)=>.split a o
  | none=>match Gl ops.toList with|some (_,al,o)=>.late (openL ops.toList) al o|none=>.draw ops.toList) else .run ops.toList
noncomputable def dopT [Globs] (P:Program) [Ext P] (call:Ak) (N:Nat) (a:List Oper) (st:StT):Option StT:=bif okT N a st then @opsT (gM (mdOf a)) P (Eo (mdOf a) P call) a N a st else none
noncomputable def thT (x:Option StT) (f:StT->Option StT):Option (Ex × StT):=match x with|some s=>(match f s with|some s=>some (.normal,s)|none=>none)|none=>none
noncomputable def regT [Globs] (P:Program) [Ext P] (call:Ak) (N:Nat) (ops:Array Oper) (draw:Bool) (st:StT):Option (Ex × StT) :=
 match rgT ops draw with
 | .run L=>thT (opsT P call L N L st) some
 | .split a o=>thT (dopT P call N a st) (opsT P call [o] N [o])
 | .late a al o=>thT (dopT P call N a st) (opsT P call [al,o] N [al,o])
 | .draw L=>thT (dopT P call N L st) some
noncomputable def Aco (kp:Bool) (f:StT->Option (Ex × StT)) (k:Nat):StT->Option (Ex × StT) :=
 Nat.rec (motive:=fun _=>StT->Option (Ex × StT)) (fun _=>none) (fun _ ih st=>match f st with|some (.normal,⟨t,S,tk,n⟩)=>ih ⟨t,cutS kp st.S.length S,tk,n⟩|r=>r) k
noncomputable def codT [Globs] (P:Program) [Ext P] (call:Ak) (k N:Nat) (c:Code):StT->Option (Ex × StT) :=
 Code.rec (motive:=fun _=>StT->Option (Ex × StT)) (fun st=>some (.normal,st)) (fun _ ops draw st=>regT P call N ops draw st)
  (fun _ _ f g st=>match f st with|some (.normal,st')=>g st'|r=>r)
  (fun c _ _ f g st=>match opT st.t c with|.prim (.bool b)=>bif b then f st else g st|_=>none)
  (fun id _ f st=>match f st with|some (.exit id',st')=>bif id' == id then some (.normal,st') else some (.exit id',st')|r=>r)
  (fun c f st=>Aco (Kp c) f k st) (fun _ _ _ _ _ _ _=>none) (fun id st=>some (.exit id,st)) (fun _ f st=>f st) (fun _ st=>some (.normal,st)) (fun _ _=>none) (fun st=>some (.ret,st)) (fun _ _=>none) c
theorem T3 [Globs] [Ext P] {call:Ak} (hc:CLe call (cL P)) {N:Nat} {a:List Oper} {st st':StT} {T:List AV} (hr:Rl N T st.t) (h:dopT P call N a st=some st'):Ar (st.at T) a=true/\∃ T',Rl N T' st'.t/\@evOs (gM (mdOf a)) P (Eo (mdOf a) P (cL P)) a a (st.at T)=some (st'.at T'):=by
 unfold dopT at h
 cases hk:okT N a st with
 | false=>rw [hk] at h; cases h
 | true =>
  rw [hk] at h
  obtain ⟨T',h1,h2⟩:=@Qa P (gM (mdOf a)) _ _ _ _ _ _ _ hr h
  exact ⟨Agl hr hk,T',h1,Av (G:=gM _) hc.pure h2⟩
theorem Uk [Globs] [Ext P] {call:Ak} (hc:CLe call (cL P)) {N:Nat} {all L:List Oper} {st st':StT} {T:List AV} (hr:Rl N T st.t) (h:opsT P call all N L st=some st'):∃ T',Rl N T' st'.t/\evOs P (cL P) all L (st.at T)=some (st'.at T'):=by
 obtain ⟨T',h1,h2⟩:=Qa hr h
 exact ⟨T',h1,Av hc h2⟩
theorem Wf {x:Option StT} {f:StT->Option StT} {r:Ex × StT} (h:thT x f=some r):∃ s,x=some s/\f s=some r.2/\r.1=.normal:=by
 unfold thT at h
 split at h
 ·split at h
  ·rename_i s _ s' hs
   cases h
   exact ⟨s,rfl,hs,rfl⟩
  ·cases h
 ·cases h
theorem Ee [Globs] [Ext P] {call:Ak} (hc:CLe call (cL P)) {k N:Nat} : ∀ {c:Code} {st st':StT} {e:Ex} {T:List AV},Rl N T st.t->codT P call k N c st=some (e,st')->∃ T',Rl N T' st'.t/\eL P c (st.at T)=some (e,st'.at T')
 | .skip,st,st',e,T,hr,h=>by
  cases h
  exact ⟨T,hr,Ao.2 ⟨0,rfl⟩⟩
 | .region id ops draw,st,st',e,T,hr,h=>by
  change regT P call N ops draw st=_ at h
  unfold regT at h
  cases draw with
  | false =>
   simp only [rgT,cond_false] at h
   obtain ⟨s,h1,h2,h3⟩:=Wf h
   cases h2
   obtain ⟨T',g1,g2⟩:=Uk hc hr h1
   refine ⟨T',g1,?_⟩
   rw [Jp,g2]
   simp only at h3
   subst h3; rfl
  | true =>
   simp only [rgT,cond_true] at h
   cases hs:Db ops.toList with
   | some x =>
    obtain ⟨a,o⟩:=x
    rw [hs] at h
    obtain ⟨s,h1,h2,h3⟩:=Wf h
    obtain ⟨d,T1,g1,g2⟩:=T3 hc hr h1
    obtain ⟨T',g3,g4⟩:=Uk hc g1 h2
    refine ⟨T',g3,?_⟩
    rw [Y9 hs,if_pos d,g2]
    simp only at h3 ⊢
    rw [g4]
    subst h3; rfl
   | none =>
    rw [hs] at h
    simp only at h
    cases hl:Gl ops.toList with
    | some x =>
     obtain ⟨p,al,o⟩:=x
     rw [hl] at h
     obtain ⟨s,h1,h2,h3⟩:=Wf h
     obtain ⟨d,T1,g1,g2⟩:=T3 hc hr h1
     obtain ⟨T',g3,g4⟩:=Uk hc g1 h2
     refine ⟨T',g3,?_⟩
     rw [Y7 hs hl,if_pos d,g2]
     simp only at h3 ⊢
     rw [g4]
     subst h3; rfl
    | none =>
     rw [hl] at h
     obtain ⟨s,h1,h2,h3⟩:=Wf h
     cases h2
     obtain ⟨d,T1,g1,g2⟩:=T3 hc hr h1
     refine ⟨T1,g1,?_⟩
     rw [Y6 hs hl,if_pos d,g2]
     simp only at h3
     subst h3; rfl
 | .seq a b,st,st',e,T,hr,h=>by
  change (match codT P call k N a st with|some (.normal,st')=>codT P call k N b st'|r=>r)=_ at h
  rw [Adj]
  split at h
  ·rename_i s1 h1
   obtain ⟨T1,g1,g2⟩:=Ee hc hr h1
   rw [g2]
   exact Ee hc g1 h
  ·rename_i hne
   obtain ⟨T1,g1,g2⟩:=Ee hc hr h
   refine ⟨T1,g1,?_⟩
   rw [g2]
   cases e with
   | normal=>exact absurd h (hne st')
   | exit id=>rfl
   | ret=>rfl
 | .cond c a b,st,st',e,T,hr,h=>by
  change (match opT st.t c with|.prim (.bool t)=>bif t then codT P call k N a st else codT P call k N b st|_=>none)=_ at h
  rw [Y5]
  have hT:(st.at T).T=T:=rfl
  rw [hT,hr.op]
  split at h
  ·rename_i t ht
   rw [ht]
   simp only
   cases t with
   | true=>rw [if_pos rfl]; exact Ee hc hr h
   | false=>rw [if_neg (by simp)]; exact Ee hc hr h
  ·cases h
 | .block id a,st,st',e,T,hr,h=>by
  change (match codT P call k N a st with|some (.exit id',st')=>bif id' == id then some (Ex.normal,st') else some (Ex.exit id',st')|r=>r)=_ at h
  rw [Vj]
  split at h
  ·rename_i id' s1 h1
   obtain ⟨T1,g1,g2⟩:=Ee hc hr h1
   rw [g2]
   simp only
   cases hi:id' == id with
   | true =>
    rw [hi] at h; cases h
    rw [if_pos (by simpa using hi)]; exact ⟨T1,g1,rfl⟩
   | false =>
    rw [hi] at h; cases h
    rw [if_neg (by simpa using hi)]; exact ⟨T1,g1,rfl⟩
  ·rename_i hne
   obtain ⟨T1,g1,g2⟩:=Ee hc hr h
   refine ⟨T1,g1,?_⟩
   rw [g2]
   cases e with
   | normal=>rfl
   | exit id=>exact absurd h (hne id st')
   | ret=>rfl
 | .loop a,st,st',e,T,hr,h=>by
  change Aco (Kp a) (codT P call k N a) k st=_ at h
  have key:∀ m (st:StT) (T:List AV),Rl N T st.t->Aco (Kp a) (codT P call k N a) m st=some (e,st')->∃ T',Rl N T' st'.t/\eL P (.loop a) (st.at T)=some (e,st'.at T'):=by
   intro m
   induction m with
   | zero=>intro st T hr h; cases h
   | succ m ih =>
    intro st T hr h
    change (match codT P call k N a st with|some (.normal,⟨t,S,tk,n⟩)=>Aco (Kp a) (codT P call k N a) m ⟨t,cutS (Kp a) st.S.length S,tk,n⟩|r=>r)=_ at h
    rw [Y8]
    split at h
    ·rename_i t S tk n h1
     obtain ⟨T1,g1,g2⟩:=Ee hc hr h1
     rw [g2]
     exact ih ⟨t,cutS (Kp a) st.S.length S,tk,n⟩ T1 g1 h
    ·rename_i hne
     obtain ⟨T1,g1,g2⟩:=Ee hc hr h
     refine ⟨T1,g1,?_⟩
     rw [g2]
     cases e with
     | normal=>exact absurd h (hne _ _ _ _)
     | exit id=>rfl
     | ret=>rfl
  exact key k st T hr h
 | .exit id,st,st',e,T,hr,h=>by
  cases h
  exact ⟨T,hr,Ao.2 ⟨0,rfl⟩⟩
 | .ret,st,st',e,T,hr,h=>by
  cases h
  exact ⟨T,hr,Ao.2 ⟨0,rfl⟩⟩
 | .label _,st,st',e,T,hr,h=>by
  cases h
  exact ⟨T,hr,Ao.2 ⟨0,rfl⟩⟩
 | .scope a,st,st',e,T,hr,h=>by
  obtain ⟨T1,g1,g2⟩:=Ee (c:=a) hc hr h
  obtain ⟨m,g2⟩:=Ao.1 g2
  exact ⟨T1,g1,Ao.2 ⟨m,g2⟩⟩
 | .rangeFunc _ _ _ _,_,_,_,_,_,h=>by cases h
 | .goto _,_,_,_,_,_,h=>by cases h
 | .refuse _,_,_,_,_,_,h=>by cases h
/- calls -/
noncomputable def reT (P:Program) (st:StT):ResultVar->Option AV
 | .tmp t=>some (gT (pth t) st.t)
 | .cell a ty=>ldA P ty (gT (pth a) st.t) st.S
noncomputable def ouT (P:Program) (fn:Func):Option (Ex × StT)->Option (AV × StT)
 | some (.normal,st)=>(match mapO (reT P st) fn.results.toList with|some l=>some (oneOf l,st)|none=>none)
 | some (.ret,st)=>(match mapO (reT P st) fn.results.toList with|some l=>some (oneOf l,st)|none=>none)
 | _=>none
inductive Fun0 where|bad|mk (fn:Func) (c:Code) (mv nl:Bool)
def fuT (P:Program) [Ext P] (f:FuncId):Fun0 :=
 match P.funcs[f]? with
 | some fn => (match fn.body with | some c => bif fn.name == "runtime.NumGoroutine" then .bad else .mk fn c (Ext.mv P f) (D7 c) | none => .bad)
 | none=>.bad
noncomputable def inT [Globs] (P:Program) [Ext P] (call:Ak) (k:Nat) (fn:Func) (c:Code) (args:List AV) (S:List Ent) (tk:List Nat) (n:Nat):Option (AV × StT) :=
 ouT P fn (codT P call k (args.length+(fn.ntmps - args.length)) c ⟨iniT 0 args .l,S,tk,n⟩)
noncomputable def ruT [Globs] (P:Program) [Ext P] (call:Ak) (k:Nat) (fn:Func) (c:Code) (args:List AV):Option AV :=
 match inT P call k fn c args [] [] 0 with
 | some (r,st)=>bif pure3 (w3 (fz3 0 st.S r)) then some (w3 (fz3 0 st.S r)) else none
 | none=>none
def isE:Option AV->Bool
 | some (.frz [] .unk)=>true
 | _=>false
noncomputable def rnT (run:List AV->Option AV):List AV->Option AV
 | .frz [] .unk :: l=>bif isE (run (.frz [] .nl :: l)) && isE (run (.frz [] .nn :: l)) then some (.frz [] .unk) else none
 | .frz (e :: es) .unk :: l=>run (.frz (e :: es) .unk :: l)
 | _=>none
noncomputable def boT [Globs] (P:Program) [Ext P] (tb:FuncId->List AV->Option AV) (k:Nat) (call:Ak):Ak:=fun f args S tk n =>
 match tb f (args.map w2) with
 | some r=>some (r,S,tk,n)
 | none=>bif Ext.on P f then Ext.call P f args S tk n else match fuT P f with
  | .bad=>none
  | .mk fn c mv nl=>bif mv then (match inT P call k fn c args S tk n with|some (r,⟨_,S,tk,n⟩)=>some (r,S,tk,n)|none=>none)
   else bif (args.map w2).all pure2 then (match (bif nl then rnT (ruT P call k fn c) (args.map w2) else ruT P call k fn c (args.map w2)) with|some r=>some (r,S,tk,n)|none=>none)
   else (match inT P call k fn c args S tk n with|some (r,⟨_,S',tk,n⟩)=>some (fz3 S.length S' r,S'.take S.length,tk,n)|none=>none)
noncomputable def evT [Globs] (P:Program) [Ext P] (tb:FuncId->List AV->Option AV) (k d:Nat):Ak:=Nat.rec (motive:=fun _=>Ak) (fun _ _ _ _ _=>none) (fun _ ih=>boT P tb k ih) d
theorem Zn [Globs] [Ext P] {call:Ak} (hc:CLe call (cL P)) {k:Nat} {fn:Func} {c:Code} {args:List AV} {S:List Ent} {tk:List Nat} {n:Nat} {r:AV} {st:StT} (h:inT P call k fn c args S tk n=some (r,st)):∃ T,RK P fn c ⟨args++bots (fn.ntmps - args.length),S,tk,n⟩ []=some (r,st.at T):=by
 unfold inT at h
 have res:∀ {T s x},Rl (args.length+(fn.ntmps - args.length)) T s.t->(match mapO (reT P s) fn.results.toList with|some l=>some (oneOf l,s)|none=>none)=some x->resA P fn.results.toList (s.at T)=some x.1/\x.2=s:=by
  intro T s x hr h
  have e:reT P s=resA1 P (s.at T):=funext fun v=>by cases v <;> simp [reT,resA1,StT.at,hr.get]
  unfold resA
  rw [<- e]
  split at h
  ·rename_i l hl; cases h; rw [hl]; exact ⟨rfl,rfl⟩
  ·cases h
 rw [Lp]
 unfold RK
 cases hx:codT P call k (args.length+(fn.ntmps - args.length)) c ⟨iniT 0 args .l,S,tk,n⟩ with
 | none=>rw [hx] at h; cases h
 | some x =>
  obtain ⟨e,s⟩:=x
  rw [hx] at h
  obtain ⟨T,g1,g2⟩:=Ee hc (T:=args++List.replicate (fn.ntmps - args.length) .bot) Rl.ini hx
  change eL P c ⟨args++List.replicate (fn.ntmps - args.length) .bot,S,tk,n⟩=_ at g2
  rw [g2]
  refine ⟨T,?_⟩
  cases e with
  | normal =>
   obtain ⟨q1,q2⟩:=res g1 h
   simp only at q2; subst q2
   simp only [cont,outA,q1]; rfl
  | ret =>
   obtain ⟨q1,q2⟩:=res g1 h
   simp only at q2; subst q2
   simp only [cont,outA,q1]; rfl
  | exit id=>cases h
theorem V9 [Globs] [Ext P] {call:Ak} (hc:CLe call (cL P)) {k:Nat} {fn:Func} {c:Code} {args:List AV} {r:AV} (h:ruT P call k fn c args=some r):pure3 r=true/\fin1 (RK P fn c ⟨args++bots (fn.ntmps - args.length),[],[],0⟩ [])=some r:=by
 unfold ruT at h
 split at h
 ·rename_i r' st hi
  cases hp:pure3 (w3 (fz3 0 st.S r')) with
  | false=>rw [hp] at h; cases h
  | true =>
   rw [hp] at h
   simp only [cond_true,Option.some.injEq] at h
   subst h
   obtain ⟨T,hT⟩:=Zn hc hi
   exact ⟨hp,by rw [hT]; rfl⟩
 ·cases h
theorem Adn {x:Option AV} (h:isE x=true):x=some (.frz [] .unk):=by
 unfold isE at h
 split at h
 ·rfl
 ·cases h
abbrev Tab [Globs] (P:Program) [Ext P] (tb:FuncId->List AV->Option AV):Prop:=∀ f args r,tb f (args.map w2)=some r->∀ S tk n,cL P f args S tk n=some (r,S,tk,n)
theorem Adf [Globs] [Ext P] {tb:FuncId->List AV->Option AV} (ht:Tab P tb) {k:Nat} {call:Ak} (hc:CLe call (cL P)):CLe (boT P tb k call) (cL P):=by
 intro f args S tk n r h
 unfold boT at h
 split at h
 ·rename_i r' bn
  cases h
  exact ht _ _ _ bn _ _ _
 cases bi:Ext.on P f with
 | true=>rw [bi] at h; exact K7 bi h
 | false =>
  rw [bi] at h
  simp only [cond_false] at h
  unfold fuT at h
  cases hf:P.funcs[f]? with
  | none=>rw [hf] at h; cases h
  | some fn =>
   rw [hf] at h
   simp only at h
   cases hb:fn.body with
   | none=>rw [hb] at h; cases h
   | some c =>
    rw [hb] at h
    simp only at h
    cases hn : fn.name == "runtime.NumGoroutine" with
    | true=>rw [hn] at h; cases h
    | false =>
     rw [hn] at h
     simp only [cond_false] at h
     cases hm:Ext.mv P f with
     | true =>
      rw [hm] at h
      simp only [cond_true] at h
      split at h
      ·rename_i r' t S1 tk1 n1 hi
       cases h
       obtain ⟨T,hT⟩:=Zn hc hi
       exact Aeg hf (by rw [bi,hm]; rfl) hb hn rfl (by rw [hT]; rfl)
      ·cases h
     | false =>
      rw [hm] at h
      simp only [cond_false] at h
      have hx:(Ext.on P f || Ext.mv P f)=false:=by rw [bi,hm]; rfl
      cases hp:(args.map w2).all pure2 with
      | true =>
       rw [hp] at h
       simp only [cond_true] at h
       split at h
       ·rename_i r' bn
        cases h
        cases j7:D7 c with
        | false =>
         rw [j7] at bn
         obtain ⟨g1,g2⟩:=V9 hc bn
         rw [List.length_map] at g2
         exact Q8 hf hx hb j7 hn rfl rfl hp _ _ _ g1 g2
        | true =>
         rw [j7] at bn
         simp only [cond_true] at bn
         unfold rnT at bn
         split at bn
         ·rename_i l hl
          cases hq:isE (ruT P call k fn c (.frz [] .nl :: l)) && isE (ruT P call k fn c (.frz [] .nn :: l)) with
          | false=>rw [hq] at bn; cases bn
          | true =>
           rw [hq] at bn
           simp only [cond_true,Option.some.injEq] at bn
           subst bn
           rw [Bool.and_eq_true] at hq
           have re:l.all pure2=true:=by rw [hl] at hp; simp only [List.all_cons,Bool.and_eq_true] at hp; exact hp.2
           exact Q7 hf hx hb j7 hn rfl hl re _ _ _ (V9 hc (Adn hq.1)).2 (V9 hc (Adn hq.2)).2
         ·rename_i e es l hl
          obtain ⟨g1,g2⟩:=V9 hc bn
          rw [hl] at hp
          exact Pt hf hx hb j7 hn rfl hl hp _ _ _ g1 g2
         ·cases bn
       ·cases h
      | false =>
       rw [hp] at h
       simp only [cond_false] at h
       split at h
       ·rename_i r' t S1 tk1 n1 hi
        cases h
        obtain ⟨T,hT⟩:=Zn hc hi
        exact Lq hf hx hb hn rfl hp (by rw [hT]; rfl)
       ·cases h
theorem Adk [Globs] [Ext P] {tb:FuncId->List AV->Option AV} (ht:Tab P tb) {k:Nat} : ∀ {d:Nat},CLe (evT P tb k d) (cL P)
 | 0=>fun _ _ _ _ _ _ h=>by cases h
 | d+1=>Adf ht (Adk ht (d:=d))
noncomputable def ansT [Globs] (P:Program) [Ext P] (tb:FuncId->List AV->Option AV) (f:FuncId) (args:List AV) (r:AV):Bool :=
 match fuT P f with
 | .mk fn c false false=>!Ext.on P f && args.all pure2 && (match ruT P (evT P tb 2000 100) 2000 fn c args with|some r'=>eqA r' r|none=>false)
 | _=>false
theorem cL_T [Globs] [Ext P] {tb:FuncId->List AV->Option AV} (ht:Tab P tb) {f:FuncId} {args args':List AV} {r:AV} (ha:args.map w2=args') (h:ansT P tb f args' r=true) (S:List Ent) (tk:List Nat) (n:Nat):cL P f args S tk n=some (r,S,tk,n):=by
 have rg:Tab P (fun (_:FuncId) (_:List AV)=>(none:Option AV)):=fun _ _ _ h=>by cases h
 subst ha
 unfold ansT at h
 split at h
 ·rename_i fn c rh
  simp only [Bool.and_eq_true,Bool.not_eq_true'] at h
  obtain ⟨⟨bi,hp⟩,h⟩:=h
  split at h
  ·rename_i r' bn
   have:=Rg h
   subst this
   refine Adf rg (Adk ht) f args S tk n _ (k:=2000) (call:=evT P tb 2000 100) ?_
   simp only [boT,bi,rh,cond_false,hp,cond_true,bn]
  ·cases h
 ·cases h
def lkT:List (List AV × AV)->List AV->Option AV
 | [],_=>none
 | (a,r) :: l,args=>bif eqM a args then some r else lkT l args
def tbT:List (Nat × List (List AV × AV))->FuncId->List AV->Option AV
 | [],_,_=>none
 | (g,l) :: t,f,args=>match (bif Nat.beq g f then lkT l args else none) with|some r=>some r|none=>tbT t f args
theorem Adp:∀ {l:List (List AV × AV)} {args:List AV} {r:AV},lkT l args=some r->(args,r) ∈ l
 | [],_,_,h=>by cases h
 | (a,r') :: l,args,r,h=>by
  simp only [lkT] at h
  cases he:eqM a args with
  | true=>rw [he] at h; cases h; rw [H5 he]; exact List.mem_cons_self ..
  | false=>rw [he] at h; exact List.mem_cons_of_mem _ (Adp h)
theorem Agx {g:Nat} {l:List (List AV × AV)} {t:List (Nat × List (List AV × AV))} {f:FuncId} {args:List AV} {r:AV} (h:tbT ((g,l) :: t) f args=some r):(g=f/\(args,r) ∈ l)\/tbT t f args=some r:=by
 simp only [tbT] at h
 cases he:Nat.beq g f with
 | false=>rw [he] at h; exact .inr h
 | true =>
  rw [he] at h
  simp only [cond_true] at h
  split at h
  ·rename_i r' bn; cases h; exact .inl ⟨Nat.eq_of_beq_eq_true he,Adp bn⟩
  ·exact .inr h
theorem K4 [Globs] [Ext P]:Tab P (tbT []):=fun _ _ _ h=>by cases h
theorem My [Globs] [Ext P] {tb:FuncId->List AV->Option AV} (ht:Tab P tb) {t t':List (Nat × List (List AV × AV))} (gu:Tab P (tbT t')) (h:(t.all fun e=>e.2.all fun a=>ansT P tb e.1 a.1 a.2)=true):Tab P (tbT (t++t')):=by
 induction t with
 | nil=>exact gu
 | cons e t ih =>
  obtain ⟨g,l⟩:=e
  rw [List.all_cons,Bool.and_eq_true] at h
  intro f args r hr S tk n
  rcases Agx hr with ⟨rfl,hm⟩|hr
  ·have:=h.1
   rw [List.all_eq_true] at this
   exact cL_T ht rfl (this _ hm) S tk n
  ·exact ih h.2 f args r hr S tk n
end
section
variable {P:Program}
@[reducible] def Ext.sub (E:Ext P) (c0:Ak):Ext P:={ on:=E.on,mv:=E.mv,call:=c0 }
theorem Hc [Globs] (E:Ext P) {c0:Ak} {call:Ak} {ok:St->List Oper->Bool} {n:Nat} : ∀ (c:Code) (st:St),@evC _ P (Ext.sub E c0) call ok n c st=@evC _ P E call ok n c st
 | .skip,_=>by simp only [evC]
 | .region _ ops draw,st=>by simp only [evC]; rfl
 | .seq a b,st=>by
  simp only [evC,Hc E a]
  split <;> first|exact Hc E b _|rfl
 | .cond c a b,st=>by simp only [evC,Hc E a,Hc E b]
 | .block _ c,st=>by simp only [evC,Hc E c]
 | .loop c,st=>by
  simp only [evC]
  congr 1
  funext s
  exact Hc E c s
 | .exit _,_=>by simp only [evC]
 | .ret,_=>by simp only [evC]
 | .scope c,st=>by simp only [evC]; exact Hc E c st
 | .label _,_=>by simp only [evC]
 | .goto _,_=>by simp only [evC]
 | .rangeFunc _ _ _ _,_=>by simp only [evC]
 | .refuse _,_=>by simp only [evC]
theorem Zb [Globs] (E:Ext P) {c0:Ak} (h0:CLe c0 E.call) {ok:St->List Oper->Bool} : ∀ k,CLe (@evF _ P (Ext.sub E c0) ok k) (@evF _ P E ok k)
 | 0=>by intro f args S tk n r he; simp [evF] at he
 | k+1=>by
  have ih:=Zb E h0 (ok:=ok) k
  intro f args S tk n r he
  simp only [evF] at he ⊢
  split at he
  ·rename_i bi
   rw [if_pos (show @Ext.on P E f=true from bi)]
   exact h0 _ _ _ _ _ _ he
  rename_i bi
  rw [if_neg (show ¬ @Ext.on P E f=true from bi)]
  split at he
  ·rename_i fn hf
   split at he
   ·rename_i c hb
    split at he
    ·simp at he
    ·rename_i ao
     rw [if_neg ao]
     have out:∀ {st0:St} {r0:AV × St},outA P fn (@evC _ P (Ext.sub E c0) (@evF _ P (Ext.sub E c0) ok k) ok k c st0)=some r0->outA P fn (@evC _ P E (@evF _ P E ok k) ok k c st0)=some r0:=by
      intro st0 r0 h
      rw [Hc E] at h
      exact Hf (fun z hz=>A3 ih (Nat.le_refl _) c _ z hz) h
     split at he
     ·rename_i eu
      rw [if_pos (show @Ext.mv P E f=true from eu)]
      split at he
      ·rename_i r' s1 ho
       rw [out ho]
       exact he
      ·simp at he
     rename_i eu
     rw [if_neg (show ¬ @Ext.mv P E f=true from eu)]
     split at he
     ·rename_i hp
      rw [if_pos hp]
      have one:∀ {xs0:List AV} {r0:AV},@runP _ P (Ext.sub E c0) ok (@evF _ P (Ext.sub E c0) ok k) k fn c xs0=some r0->@runP _ P E ok (@evF _ P E ok k) k fn c xs0=some r0:=by
       intro xs0 r0 hrun
       unfold runP at hrun ⊢
       split at hrun
       ·rename_i r' s1 ho
        rw [out ho]
        exact hrun
       ·simp at hrun
      split at he
      ·rename_i r' ho
       have:(if D7 c=true then runN (@runP _ P E ok (@evF _ P E ok k) k fn c) (args.map w2) else @runP _ P E ok (@evF _ P E ok k) k fn c (args.map w2))=some r':=by
        split at ho
        ·rename_i hn
         rw [if_pos hn]
         unfold runN at ho ⊢
         split at ho
         ·split at ho
          ·rename_i q1 q2
           rw [one q1,one q2]; exact ho
          ·simp at ho
         ·exact one ho
        ·rename_i hn
         rw [if_neg hn]
         exact one ho
       rw [this]; exact he
      ·simp at he
     ·rename_i hp
      rw [if_neg hp]
      split at he
      ·rename_i r' s1 ho
       rw [out ho]
       exact he
      ·simp at he
   ·simp at he
  ·simp at he
theorem Ac5 [Globs] {E:Ext P} {c0:Ak} (h0:CLe c0 E.call) {f:FuncId} {args:List AV} {S:List Ent} {tk:List Nat} {n:Nat} {r:AV × List Ent × List Nat × Nat} (h:@cL _ P (Ext.sub E c0) f args S tk n=some r):@cL _ P E f args S tk n=some r:=by
 obtain ⟨k,hk⟩:=(@Gx P _ (Ext.sub E c0) _ _ _ _ _ _).1 h
 exact (@Gx P _ E _ _ _ _ _ _).2 ⟨k,Zb E h0 k _ _ _ _ _ _ hk⟩
end
end
section
open Go Tryz Go.RowKit
theorem Lie.other {w:World} {A A':Nat->Nat->Prop} {b:Nat} (h:∀ o,¬ A' b o):∀ {vs:List Value} {o:Nat},Lie w A b o vs->Lie w A' b o vs
 | [],_,_=>trivial
 | _ :: _,_,⟨h1,_,h3⟩=>⟨h1,h _,Lie.other h h3⟩
theorem Ap.other {w:World} {A A':Nat->Nat->Prop} {b:Nat} (h:∀ o,¬ A' b o):∀ (l:List Int) (o:Nat),Ap w A b 1 o (l.map digC)->Ap w A' b 1 o (l.map digC)
 | [],_,_=>by simp only [List.map_nil,Ap]
 | x :: l,o,hr=>by
  simp only [List.map_cons,Ap] at hr ⊢
  obtain ⟨h1,⟨vs,h2,h3⟩,h4⟩:=hr
  refine ⟨h1,⟨vs,h2.other h,?_⟩,Ap.other h l _ h4⟩
  match vs,h3 with
  | [v],h3 =>
   simp only [digC,PRs,PR,and_true] at h3 ⊢
   exact h3
theorem Afo {C:Cx} (hs:SR C) {l:List Int} {c:Cap} {v:Value} (h:VR C (.frz (l.map digC) c) v):RD C.w v l:=by
 simp only [VR] at h
 obtain ⟨a,len,cap,rfl,h1,h2,-,h4⟩:=h
 simp only [RD,digA,VR]
 refine ⟨a,len,cap,rfl,h1,h2,trivial,h4.imp id ?_⟩
 rintro ⟨b,o,sz,ea,hr⟩
 exact ⟨b,o,sz,ea,Ap.stays (A:=C.Avoid) (fun b' o' v hv ha=>⟨hv,Ux⟩) b sz o _ hr⟩
theorem Q0 {C:Cx} (hs:SR C) {w':World} {v:Value} {l:List Int} (h:RD w' v l) (hn:NewB C.w.heap.size v):VR (C.at w') (digA l) v:=by
 obtain ⟨a,cap,rfl,h2,hc⟩:=Hk h
 by_cases hl:l=[]
 ·subst hl
  simp only [digA,List.map_nil,VR]
  exact ⟨a,0,cap,rfl,rfl,Nat.zero_le _,trivial,.inl trivial⟩
 ·simp only [RD,digA,VR] at h ⊢
  obtain ⟨a',len,cap',e,h1,h3,-,h4⟩:=h
  refine ⟨a',len,cap',e,h1,h3,trivial,.inr ?_⟩
  rcases h4 with h4|⟨b,o,sz,ea,hr⟩
  ·exact absurd (by simpa using h4) hl
  ·have hsz:sz=1:=by
    cases l with
    | nil=>exact absurd rfl hl
    | cons y l=>simp only [List.map_cons,Ap,digC] at hr; exact hr.1.symm
   subst hsz
   subst ea
   have hb:=hn b o _ _ e
   exact ⟨b,o,1,rfl,Ap.other (fun o' ha=>by
    rcases ha with ha|ha
    ·have:=hs.avlt b o' ha; omega
    ·have:=Z1 hs (show C.Mut b o' from ha); omega) l o hr⟩
theorem Adx {C:Cx} {vs:Array Value} (hs:SR C) (l r:List Int) (c d:Cap) (hl:l=dig (val l).toNat) (hr:r=dig (val r).toNat) (lf:r≠[]) (h1:l.length<=90000) (h2:r.length<=90000) (hv:VRs C [.frz (l.map digC) c,.frz (r.map digC) d] vs.toList) :
  Calls prog 272 vs C.w fun e w'=>∃ v C',e=.returned v/\C'.w=w'/\Le C C'/\SR C'/\C'.S=C.S/\C'.tk=C.tk/\C'.n=C.n/\VR C' (.tup [digA (dig ((val l).toNat / (val r).toNat)),digA (dig ((val l).toNat % (val r).toNat))]) v:=by
 obtain ⟨vl⟩:=vs
 match vl,hv with
 | [x,y],hv =>
 simp only [VRs,and_true] at hv
 obtain ⟨hx,hy⟩:=hv
 have hb0:0<(val r).toNat:=by
  rcases Nat.eq_zero_or_pos (val r).toNat with h|h
  ·rw [h,Gj] at hr; exact absurd hr lf
  ·exact h
 have ri:0<C.w.heap.size:=by
  simp only [VR] at hy
  obtain ⟨a,len,cap,rfl,h1,h2,-,h4⟩:=hy
  rcases h4 with h4|⟨b,o,sz,rfl,hr⟩
  ·exact absurd (by simpa using h4) lf
  ·cases r with
   | nil=>exact absurd rfl lf
   | cons z r =>
    simp only [List.map_cons,Ap,digC] at hr
    obtain ⟨-,⟨vs,hl',hp⟩,-⟩:=hr
    match vs,hp with
    | [u],_=>exact Nat.lt_of_le_of_lt (Nat.zero_le _) (Dg hl'.1)
 refine (Ta C.w x y (val l).toNat (val r).toNat ri (by rw [<- hl]; exact Afo hs hx) (by rw [<- hr]; exact Afo hs hy) hb0 (by rw [<- hl]; exact h1) (by rw [<- hr]; exact h2)).mono ?_
 rintro e w' ⟨v1,v2,rfl,g1,g2,hb,n1,n2⟩
 refine ⟨_,C.at w',rfl,rfl,Le.of_below hb,SR.of_below hs hb,rfl,rfl,rfl,?_⟩
 unfold VR
 refine ⟨_,rfl,?_⟩
 simp only [VRs,and_true]
 refine ⟨Q0 hs g1 n1,?_⟩
 rcases n2 with ⟨rfl,e2⟩|n2
 ·rw [e2,<- hl]
  have hx2:=VR.mono (Le.of_below hb) _ _ hx
  simp only [digA,VR] at hx2 ⊢
  obtain ⟨a,len,cap,q1,q2,q3,-,q4⟩:=hx2
  exact ⟨a,len,cap,q1,q2,q3,trivial,q4⟩
 ·exact Q0 hs g2 n2
theorem Jh:∀ {es:List (List AV)} {l:List Int},K0 es=some l->es=l.map digC
 | [],l,h=>by simp only [K0,Option.some.injEq] at h; subst h; rfl
 | e :: es,l,h=>by
  unfold K0 at h
  split at h
  ·rename_i he; simp at he
  ·rename_i x r he
   simp only [List.cons.injEq] at he
   obtain ⟨rfl,rfl⟩:=he
   simp only [Option.map_eq_some_iff] at h
   obtain ⟨l',h1,rfl⟩:=h
   rw [Jh h1]; rfl
  ·simp at h
theorem Ac2 {l r:List Int} {v:AV} (h:quoF l r=some v):l=dig (val l).toNat/\r=dig (val r).toNat/\r≠[]/\l.length<=90000/\r.length<=90000/\v=.tup [digA (dig ((val l).toNat / (val r).toNat)),digA (dig ((val l).toNat % (val r).toNat))]:=by
 unfold quoF at h
 split at h
 ·rename_i hh
  simp only [Option.some.injEq] at h
  exact ⟨hh.1,hh.2.1,hh.2.2.1,hh.2.2.2.1,hh.2.2.2.2,h.symm⟩
 ·simp at h
theorem V7 {args:List AV} {S:List Ent} {tk:List Nat} {n:Nat} {r:AV} {S':List Ent} {tk':List Nat} {n':Nat} (h:quoC args S tk n=some (r,S',tk',n')):∃ l y c d,args=[.frz (l.map digC) c,.frz (y.map digC) d]/\quoF l y=some r/\S'=S/\tk'=tk/\n'=n:=by
 unfold quoC at h
 split at h
 ·rename_i es c ys d
  split at h
  ·rename_i l y hl hy
   split at h
   ·rename_i v hv
    simp only [Option.some.injEq,Prod.mk.injEq] at h
    obtain ⟨rfl,rfl,rfl,rfl⟩:=h
    exact ⟨l,y,c,d,by rw [Jh hl,Jh hy],hv,rfl,rfl,rfl⟩
   ·simp at h
  ·simp at h
 ·simp at h
theorem Wj {args:List AV} {S:List Ent} {tk:List Nat} {n:Nat} {r:AV} {S':List Ent} {tk':List Nat} {n':Nat} (h:uniC args S tk n=some (r,S',tk',n')):∃ l c,args=[.frz (l.map strC) c,.frz [] .nilc]/\l.length<=1000000/\(!l.isEmpty || Vw c)=true/\r=Xt (uniS l)/\S'=S/\tk'=tk/\n'=n:=by
 unfold uniC at h
 split at h
 ·rename_i es c
  split at h
  ·rename_i l hl
   split at h
   ·rename_i hlen
    simp only [Bool.and_eq_true,decide_eq_true_eq] at hlen
    simp only [Option.some.injEq,Prod.mk.injEq] at h
    obtain ⟨rfl,rfl,rfl,rfl⟩:=h
    exact ⟨l,c,by rw [Mw hl],hlen.1,hlen.2,rfl,rfl,rfl,rfl⟩
   ·simp at h
  ·simp at h
 ·simp at h
theorem Ago {l y:List Int} {c d:Cap} {r:AV} (hq:quoF l y=some r) (S:List Ent) (tk:List Nat) (n:Nat):quoC [.frz (l.map digC) c,.frz (y.map digC) d] S tk n=some (r,S,tk,n):=by simp [quoC,Nx,hq]
theorem Agy {l:List ByteArray} {c:Cap} (hlen:l.length<=1000000) (hc:(!l.isEmpty || Vw c)=true) (S:List Ent) (tk:List Nat) (n:Nat):uniC [.frz (l.map strC) c,.frz [] .nilc] S tk n=some (Xt (uniS l),S,tk,n):=by
 simp only [uniC,Pc]
 rw [if_pos (by rw [hc]; simpa using hlen)]
theorem Ri {f:FuncId} {args:List AV} {S:List Ent} {tk:List Nat} {n:Nat} {r:AV} {S':List Ent} {tk':List Nat} {n':Nat} (h:@extC prog E1 f args S tk n=some (r,S',tk',n')) :
  (f=98/\uniC args S tk n=some (r,S',tk',n'))\/(f=272/\quoC args S tk n=some (r,S',tk',n')):=by
 unfold extC at h
 split at h
 ·simp only [Ext.call] at h
  split at h
  ·rename_i hf; exact .inl ⟨by simpa using hf,h⟩
  ·split at h
   ·rename_i hf; exact .inr ⟨by simpa using hf,h⟩
   ·simp at h
 ·simp at h
theorem Acb (args:List AV) (S:List Ent) (tk:List Nat) (n:Nat):@extC prog E1 98 args S tk n=uniC args S tk n:=by
 simp [extC,Ext.on,Ext.call]
theorem Aca (args:List AV) (S:List Ent) (tk:List Nat) (n:Nat):@extC prog E1 272 args S tk n=quoC args S tk n:=by
 simp [extC,Ext.on,Ext.call]
@[reducible] noncomputable instance E1i:Ext prog:=E1
instance ok1:Qn prog:={
 ok:=fun f args S tk n r S' tk' n' h=>by
  rcases Ri h with ⟨rfl,hh⟩|⟨rfl,hh⟩
  ·obtain ⟨l,c,rfl,hlen,hc,rfl,rfl,rfl,rfl⟩:=Wj hh
   refine ⟨⟨_,func98,by decide +kernel,by decide +kernel⟩,fun C vs h1 h2 h3 hs hv=>?_⟩
   subst h1 h2 h3
   refine Yh hs l c hlen (fun e=>?_) hv
   subst e
   cases c <;> simp [Vw] at hc
   rfl
  ·obtain ⟨l,y,c,d,rfl,hq,rfl,rfl,rfl⟩:=V7 hh
   refine ⟨⟨_,func272,by decide +kernel,by decide +kernel⟩,fun C vs h1 h2 h3 hs hv=>?_⟩
   subst h1 h2 h3
   obtain ⟨q1,q2,q3,q4,q5,rfl⟩:=Ac2 hq
   exact Adx hs l y c d q1 q2 q3 q4 q5 hv
 indep:=fun M f args S tk n r S' tk' n' h=>by
  unfold Bq at h
  split at h
  ·rename_i hp
   rcases Ri h with ⟨rfl,hh⟩|⟨rfl,hh⟩
   ·obtain ⟨l,c,rfl,hlen,hc,rfl,rfl,rfl,rfl⟩:=Wj hh
    refine ⟨rfl,rfl,.inr ⟨rfl,fun S2 tk2 n2=>?_⟩⟩
    unfold Bq
    rw [if_pos hp,Acb]
    exact Agy hlen hc S2 tk2 n2
   ·obtain ⟨l,y,c,d,rfl,hq,rfl,rfl,rfl⟩:=V7 hh
    refine ⟨rfl,rfl,.inr ⟨rfl,fun S2 tk2 n2=>?_⟩⟩
    unfold Bq
    rw [if_pos hp,Aca]
    exact Ago hq S2 tk2 n2
  ·simp at h }
end
section
open Go Tryz
theorem ext_mv1 (f:FuncId) (h:mvF0 f=false):Ext.mv prog f=false:=h
set_option linter.defProp false in
def ev1:=And.intro ext_mv1 ev0
set_option linter.defProp false in
def evs1:=And.intro ext_mv1 evs0
theorem Jk {α:Type} {l:List α} {i:Nat} {x:α} (h:nth l i=some x):x ∈ l:=by rw [Ab] at h; exact List.mem_of_getElem? h
end
end Go.Proofs.YthelkgdmgihhiaaGreatDoor
