/- Part 11. -/
import Derived.Test.YtcandeobhlfkbaaGreatZM10
import Derived.Sort.OwnSorted
import Derived.Sort.Grow
import Derived.Lib.OwnBridge
import Derived.Laws.AppendOwn
import Derived.Laws.AppendOwnNone
import Derived.Lib.Hide
namespace Go.Proofs.YtcandeobhlfkbaaGreat
section
open Go Tryz Go.RowKit Go.Sort
theorem Apx:(prog.info? 9).map (fun i=>(i.zero,i.size,i.bytes))=some (some (.string ⟨#[]⟩),1,16):=by kernel_rfl
set_option maxHeartbeats 2000000 in
set_option maxRecDepth 100000 in
theorem Aeq (w:World):Calls prog 48 #[.slice none 0 0,.slice none 0 0] w fun e w'=>∃ a,e=.returned (.slice a 0 0)/\Below w.heap.size w w':=by
 go_enter func48,ntmps48
 go_wp2_with (go_at_call 73; refine (Tryz.slices_Sort_string_none _ _ _).mono ?_; rintro e w' ⟨rfl,rfl⟩)
 go_wp2_with (go_at_call 74; refine (Tryz.slices_Compact_string_empty _ _ _).mono ?_; rintro e w' ⟨rfl,rfl⟩)
 go_ret
 exact ⟨_,rfl,(Below.refl _ _).alloc (Nat.le_refl _) _⟩
theorem Ai7 {w w1:World} {g cap n nn q:Nat} {os:Array Obj} {ss:List (List UInt8)} (hown:w1.ownsRow w.heap.size 9 1 (.slice (some ⟨g,0,none⟩) n cap) n (ss.map encStr)) (hbel:Below w.heap.size w w1) (hbg:w.heap.size<=g) (hlen:ss.length=n) :
  ∃ g' cap',(Ending.returned (.slice (some ⟨g,0,none⟩) (Lib.compact (ss.mergeSort fun x y=>decide (x<=y))).length cap))=.returned (.slice (some ⟨g',0,none⟩) (Lib.compact (ss.mergeSort fun x y=>decide (x<=y))).length cap') /\
   (putRow encStr (Sort.ahead (grow (putRow encStr (Sort.ahead w1 nn) g 0 (ss.mergeSort fun x y=>decide (x<=y)).toArray) os) q) g 0 (Lib.compact (ss.mergeSort fun x y=>decide (x<=y))++List.replicate (n - (Lib.compact (ss.mergeSort fun x y=>decide (x<=y))).length) []).toArray).ownsRow w.heap.size 9 1 (.slice (some ⟨g',0,none⟩) (Lib.compact (ss.mergeSort fun x y=>decide (x<=y))).length cap') (Lib.compact (ss.mergeSort fun x y=>decide (x<=y))).length ((Lib.compact (ss.mergeSort fun x y=>decide (x<=y))).map encStr) /\
   Below w.heap.size w (putRow encStr (Sort.ahead (grow (putRow encStr (Sort.ahead w1 nn) g 0 (ss.mergeSort fun x y=>decide (x<=y)).toArray) os) q) g 0 (Lib.compact (ss.mergeSort fun x y=>decide (x<=y))++List.replicate (n - (Lib.compact (ss.mergeSort fun x y=>decide (x<=y))).length) []).toArray):=by
 have hl2:(ss.mergeSort fun x y=>decide (x<=y)).length=ss.length:=List.length_mergeSort ss
 have hle:=Lib.compact_length_le (ss.mergeSort fun x y=>decide (x<=y))
 subst hlen
 rcases hown.2 with ⟨h0,_⟩|⟨g',cap',cur,hv,hbase,hb,h1,h2,h3,h4⟩
 ·cases h0
 cases hv
 have hs:=ownsRow_sorted (n:=nn) (os:=os) (ts:=ss.mergeSort fun x y=>decide (x<=y)) hl2 hbase hb h1 h2 h3
 have hc:=Lib.ownsRow_putRow (q:=q) (k:=(Lib.compact (ss.mergeSort fun x y=>decide (x<=y))).length) (ys:=Lib.compact (ss.mergeSort fun x y=>decide (x<=y))++List.replicate (ss.length - (Lib.compact (ss.mergeSort fun x y=>decide (x<=y))).length) []) hs (by simp; omega) (by omega)
 rw [List.take_left] at hc
 exact ⟨g,cap,rfl,hc,Lib.below_putRow (hbel.grown (grownBy_sorted _) hbel.size (fun j hj=>by cases hj; exact hbase)) hbg⟩
theorem Ai6 {w:World} {b o len cap:Nat} {ss:List (List UInt8)} (hl:ss.length=len) (hc:∀ j u,(ss.map encStr)[j]?=some u->w.cell? ⟨b,o+j,none⟩=some u) (hbig:len<=1000000) {ops:Array Oper} {rest:List Oper} {op:Oper} {a:Act} {Q:Exit->Act->World->Prop}
  (hgd:op.guard=none) (ho:op.op=.call { callee:=.builtin .append,args:=#[.tmp 6,.tmp 7],argTypes:=#[41,41] }) (h6:a.eval (.tmp 6)=.slice (some ⟨w.heap.size,0,none⟩) 0 0) (h7:a.eval (.tmp 7)=.slice (some ⟨b,o,none⟩) len cap)
  (h:∀ v' w',w'.ownsRow w.heap.size 9 1 v' len (ss.map encStr)->Below w.heap.size w w'->v'≠.slice none 0 0->wpList prog ops Q rest (a.put op.dst v') w'):wpList prog ops Q (op :: rest) a (w.alloc (.cells #[] 9)):=by
 obtain ⟨i0,hi,hz0,hz1,hz2⟩:=info_parts Apx
 have hbel0:Below w.heap.size w (w.alloc (.cells #[] 9)):=(Below.refl _ _).alloc (Nat.le_refl _) _
 refine wpList_append_own _ hgd _ _ 41 ho w.heap.size 9 i0 (.string ⟨#[]⟩) 1 16 underlying41 hi hz0 hz1 hz2 rfl (by decide) (.slice (some ⟨w.heap.size,0,none⟩) 0 0) 0 [] h6 (World.ownsRow_made w #[] 0 (Nat.le_refl _) (by decide) rfl) ⟨b,o,none⟩ len cap (ss.map encStr) h7 (by rw [List.length_map,hl,Nat.mul_one]) (fun j u hj=>?_) (fun u hu=>?_) (by unfold maxLen; omega) (by omega) hbel0.size (fun v' w' hown hg hn=>?_)
 ·have:=hc j u hj
  rw [B3,hbel0.cell (Dn this)]; exact this
 ·obtain ⟨x,-,rfl⟩:=List.mem_map.1 hu
  rfl
 ·rw [Nat.zero_add,List.nil_append] at hown
  refine h v' w' hown (hbel0.grown hg hbel0.size fun j hj=>?_) fun e=>?_
  ·simp only [Value.ownBlock,Option.some.injEq] at hj; omega
  ·have:=(hn.1 e).1
   simp at this
set_option maxHeartbeats 2000000 in
set_option maxRecDepth 100000 in
theorem Aer (w:World) (b o len cap:Nat) (ss:List (List UInt8)) (hl:ss.length=len) (hpos:0<len) (hc:∀ j u,(ss.map encStr)[j]?=some u->w.cell? ⟨b,o+j,none⟩=some u) (hbig:len<=1000000):Calls prog 48 #[.slice (some ⟨b,o,none⟩) len cap,.slice none 0 0] w fun e w' =>
  ∃ g cap,e=.returned (.slice (some ⟨g,0,none⟩) (Lib.compact (ss.mergeSort fun x y=>decide (x<=y))).length cap) /\
  w'.ownsRow w.heap.size 9 1 (.slice (some ⟨g,0,none⟩) (Lib.compact (ss.mergeSort fun x y=>decide (x<=y))).length cap) (Lib.compact (ss.mergeSort fun x y=>decide (x<=y))).length ((Lib.compact (ss.mergeSort fun x y=>decide (x<=y))).map encStr)/\Below w.heap.size w w':=by
 have HC:=Lib.hid hc
 have HL:=Lib.hid hl
 clear hc hl
 go_enter func48,ntmps48
 go_wp2_with (at_builtin; refine Ai6 HL.out HC.out hbig rfl rfl rfl rfl ?_; intro v1 w1 hown hbel hnn; obtain ⟨g,cap1,rfl,hbg,hgl,hncap,hcm,-,hH⟩:=Lib.holds_of_ownsRow hown hnn; have HO:=Lib.hid hown; have HB:=Lib.hid hbel; have HG:=Lib.hid hbg; have HS:=Lib.hid (show Calls prog 73 #[.slice (some ⟨g,0,none⟩) len cap1] w1 fun e w'=>e=.returned (.tuple #[])/\∃ n os,w'=grow (putRow encStr (Sort.ahead w1 n) g 0 (ss.mergeSort fun x y=>decide (x<=y)).toArray) os from by have:=Tryz.slices_Sort_string g 0 cap1 ss w1 hH hgl (by rw [HL.out]; omega); rw [HL.out] at this; exact this); have HH:=Lib.hid hH; have HGL:=Lib.hid hgl; clear hown hbel hnn hbg hgl hH)
 have HC2:=Lib.hid (show ∀ nn os,Calls prog 74 #[.slice (some ⟨g,0,none⟩) len cap1] (grow (putRow encStr (Sort.ahead w1 nn) g 0 (ss.mergeSort fun x y=>decide (x<=y)).toArray) os) fun e w'=>e=.returned (.slice (some ⟨g,0,none⟩) (Lib.compact (ss.mergeSort fun x y=>decide (x<=y))).length cap1)/\∃ q,w'=putRow encStr (Sort.ahead (grow (putRow encStr (Sort.ahead w1 nn) g 0 (ss.mergeSort fun x y=>decide (x<=y)).toArray) os) q) g 0 (Lib.compact (ss.mergeSort fun x y=>decide (x<=y))++List.replicate (len - (Lib.compact (ss.mergeSort fun x y=>decide (x<=y))).length) []).toArray from by
  intro nn os
  have hl2:(ss.mergeSort fun x y=>decide (x<=y)).length=len:=by rw [List.length_mergeSort]; exact HL.out
  have hH2:Holds encStr (grow (putRow encStr (Sort.ahead w1 nn) g 0 (ss.mergeSort fun x y=>decide (x<=y)).toArray) os) g 0 (ss.mergeSort fun x y=>decide (x<=y)).toArray :=
   holds_grow encStr _ os g 0 _ (by simpa [putRow,mapBlock,Sort.ahead] using HGL.out) (holds_putRow encStr _ g 0 _ _ (holds_ahead encStr w1 nn g 0 _ HH.out) (by simp))
  have:=Tryz.slices_Compact_string g 0 cap1 (ss.mergeSort fun x y=>decide (x<=y)) _ hH2 (by omega) (by omega)
  rw [hl2] at this
  exact this)
 go_wp2_with (go_at_call 73; refine HS.out.mono ?_; rintro e w2 ⟨rfl,nn,os,rfl⟩)
 go_wp2_with (go_at_call 74; refine (HC2.out nn os).mono ?_; rintro e w3 ⟨rfl,q,rfl⟩)
 go_ret
 exact Ai7 HO.out HB.out HG.out HL.out
theorem U7 {z:List (List UInt8)} (hz:z.Pairwise (·<=·)):(Lib.compact z).Pairwise (· < ·)/\∀ x,x ∈ Lib.compact z↔x ∈ z:=by
 have mono:∀ i j,i<=j->j<z.length->z.toArray[i]!<=z.toArray[j]!:=by
  intro i j hij hj
  rw [getElem!_pos z.toArray i (by simp; omega),getElem!_pos z.toArray j (by simpa using hj)]
  rcases Nat.lt_or_ge i j with h|h
  ·exact List.pairwise_iff_getElem.1 hz i j (by omega) hj h
  ·have:i=j:=by omega
   subst this
   exact List.le_refl _
 have key:∀ m,m<=z.length->(Lib.compactUpTo z.toArray m).Pairwise (· < ·)/\∀ x,x ∈ Lib.compactUpTo z.toArray m↔∃ j,j<m/\z.toArray[j]! = x:=by
  intro m
  induction m with
  | zero=>intro _; exact ⟨by simp [Lib.compactUpTo],fun x=>by simp [Lib.compactUpTo]⟩
  | succ m ih =>
   intro hm
   obtain ⟨h1,h2⟩:=ih (by omega)
   rw [Lib.compactUpTo_succ]
   cases hk:Lib.keeps z.toArray m with
   | true =>
    rw [if_pos rfl]
    refine ⟨List.pairwise_append.2 ⟨h1,by simp,fun x hx y hy=>?_⟩,fun x=>?_⟩
    ·obtain ⟨j,hj,rfl⟩:=(h2 x).1 hx
     have hy:y=z.toArray[m]!:=by simpa using hy
     subst hy
     simp only [Lib.keeps,decide_eq_true_eq] at hk
     have hne:=hk.resolve_left (by omega)
     refine List.not_le.1 fun hle=>hne ?_
     exact List.le_antisymm (List.le_trans hle (mono j (m - 1) (by omega) (by omega))) (mono (m - 1) m (by omega) (by omega))
    ·rw [List.mem_append,h2]
     constructor
     ·rintro (⟨j,hj,e⟩|h)
      ·exact ⟨j,by omega,e⟩
      ·exact ⟨m,by omega,(by simpa using h:x=_).symm⟩
     ·rintro ⟨j,hj,e⟩
      by_cases hjm:j=m
      ·subst hjm; exact .inr (by simp [e])
      ·exact .inl ⟨j,by omega,e⟩
   | false =>
    rw [if_neg (by simp),List.append_nil]
    refine ⟨h1,fun x=>?_⟩
    rw [h2]
    simp only [Lib.keeps,decide_eq_false_iff_not,not_or,Decidable.not_not] at hk
    constructor
    ·rintro ⟨j,hj,e⟩; exact ⟨j,by omega,e⟩
    ·rintro ⟨j,hj,e⟩
     by_cases hjm:j=m
     ·subst hjm; exact ⟨j - 1,by omega,by rw [<- hk.2]; exact e⟩
     ·exact ⟨j,by omega,e⟩
 obtain ⟨h1,h2⟩:=key z.length (Nat.le_refl _)
 refine ⟨h1,fun x=>(h2 x).trans ?_⟩
 constructor
 ·rintro ⟨j,hj,rfl⟩
  rw [getElem!_pos z.toArray j (by simpa using hj)]
  simp
 ·intro hx
  obtain ⟨j,hj,rfl⟩:=List.getElem_of_mem hx
  exact ⟨j,hj,by rw [getElem!_pos z.toArray j (by simpa using hj)]; simp⟩
theorem Zg (l:List ByteArray):Lib.compact ((l.map nm).mergeSort fun x y=>decide (x<=y))=(uniS l).map nm:=by
 have hz:((l.map nm).mergeSort fun x y=>decide (x<=y)).Pairwise (·<=·):=by
  have:=List.pairwise_mergeSort (le:=fun x y:List UInt8=>decide (x<=y)) (fun a b c h1 h2=>by simp only [decide_eq_true_eq] at *; exact List.le_trans h1 h2) (fun a b=>by simp only [Bool.or_eq_true,decide_eq_true_eq]; exact List.le_total a b) (l.map nm)
  exact this.imp fun h=>by simpa using h
 obtain ⟨h1,h2⟩:=U7 hz
 obtain ⟨u1,u2,-⟩:=G3 l
 generalize Lib.compact ((l.map nm).mergeSort fun x y=>decide (x<=y))=T at h1 h2
 have e:T=(T.map fun x=>(⟨x.toArray⟩:ByteArray)).map nm:=by
  rw [List.map_map]
  conv=>lhs; rw [<- List.map_id T]
  exact List.map_congr_left fun x _=>by simp [nm]
 rw [e]
 congr 1
 refine Al6 ?_ u1 fun x=>?_
 ·unfold Inc
  rw [List.pairwise_map]
  exact h1.imp fun h=>by simpa [nm] using h
 ·rw [u2]
  have:x ∈ (T.map fun x=>(⟨x.toArray⟩:ByteArray))↔nm x ∈ T:=by
   rw [List.mem_map]
   constructor
   ·rintro ⟨y,hy,rfl⟩; simpa [nm] using hy
   ·intro h; exact ⟨nm x,h,by simp [nm]⟩
  rw [this,h2,List.mem_mergeSort,List.mem_map]
  constructor
  ·rintro ⟨y,hy,h⟩; rw [Ahw h] at hy; exact hy
  ·intro h; exact ⟨x,h,rfl⟩
theorem Aiu {w:World} {A:Nat->Nat->Prop} {b sz:Nat} : ∀ {l:List ByteArray} {o j:Nat} {x:ByteArray},A5 w A b sz o (l.map strC)->nth l j=some x->sz=1/\w.cell? ⟨b,o+j,none⟩=some (.string x)
 | y :: l,o,0,x,h,hx=>by
  simp only [nth,Option.some.injEq] at hx
  subst hx
  simp only [List.map_cons,A5,strC] at h
  obtain ⟨h0,⟨vs,h1,h2⟩,-⟩:=h
  match vs,h2 with
  | [v],h2 =>
  simp only [PRs,PR,and_true] at h2
  simp only [Lie] at h1
  have h0:sz=1:=by simpa using h0.symm
  exact ⟨h0,by rw [Nat.add_zero,h1.1,h2.1]⟩
 | y :: l,o,j+1,x,h,hx=>by
  simp only [nth] at hx
  simp only [List.map_cons,A5] at h
  obtain ⟨h0,-,h3⟩:=h
  have h0:sz=1:=by simpa [strC] using h0.symm
  subst h0
  obtain ⟨-,h4⟩:=Aiu h3 hx
  exact ⟨rfl,by rw [<- h4]; congr 2; omega⟩
theorem Tf {w:World} {A:Nat->Nat->Prop} {b:Nat} (hA:∀ o,¬ A b o):∀ (l:List ByteArray) (o:Nat),(∀ i x,nth l i=some x->w.cell? ⟨b,o+i,none⟩=some (.string x))->A5 w A b 1 o (l.map strC)
 | [],_,_=>by simp only [List.map_nil,A5]
 | x :: l,o,h=>by
  simp only [List.map_cons,A5]
  have h1:=h 0 x rfl
  refine ⟨rfl,⟨[.string x],⟨h1,hA _,trivial⟩,?_⟩,Tf hA l (o+1) fun i d hd=>?_⟩
  ·simp [PRs,PR,strC,Value.oneCell']
  ·have:=h (i+1) d hd
   rwa [show o+(i+1)=o+1+i from by omega] at this
theorem Afn {C:Cx} {vs:Array Value} (hs:SR C) (l:List ByteArray) (c:Cap) (hlen:l.length<=1000000) (hc:l=[]->c=.nilc) (hv:VRs C [.frz (l.map strC) c,.frz [] .nilc] vs.toList) :
  Calls prog 48 vs C.w fun e w'=>∃ v C',e=.returned v/\C'.w=w'/\Le C C'/\SR C'/\C'.S=C.S/\C'.tk=C.tk/\C'.n=C.n/\VR C' (Al (uniS l)) v:=by
 obtain ⟨vl⟩:=vs
 match vl,hv with
 | [x,y],hv =>
 simp only [VRs,VR,and_true] at hv
 obtain ⟨⟨a,len,cap,rfl,h1,h2,h3,h4⟩,⟨a2,len2,cap2,rfl,g1,g2,g3,-⟩⟩:=hv
 have g1:len2=0:=by simpa using g1.symm
 subst g1
 obtain ⟨rfl,g3⟩:=(g3:a2=none/\cap2=0)
 subst g3
 by_cases hl:l=[]
 ·subst hl
  obtain rfl:=hc rfl
  have h1:len=0:=by simpa using h1.symm
  subst h1
  obtain ⟨rfl,h3⟩:=(h3:a=none/\cap=0)
  subst h3
  refine (Aeq C.w).mono ?_
  rintro e w' ⟨a,rfl,hb⟩
  refine ⟨_,C.at w',rfl,rfl,Le.of_below hb,SR.of_below hs hb,rfl,rfl,rfl,?_⟩
  simp only [Al,uniS,List.foldl_nil,List.map_nil,VR]
  exact ⟨a,0,0,rfl,rfl,Nat.le_refl _,trivial,.inl trivial⟩
 ·have hpos:0<l.length:=List.length_pos_iff.2 hl
  obtain ⟨b,o,sz,rfl,hr⟩:=h4.resolve_left (by simpa using hl)
  have h1:l.length=len:=by simpa using h1
  subst h1
  have hcell:∀ j u,((l.map nm).map encStr)[j]?=some u->C.w.cell? ⟨b,o+j,none⟩=some u:=by
   intro j u hj
   rw [List.map_map,List.getElem?_map,Option.map_eq_some_iff] at hj
   obtain ⟨x,hx,rfl⟩:=hj
   rw [(Aiu hr (by rw [Ac]; exact hx)).2]
   simp [nm]
  refine (Aer C.w b o l.length cap (l.map nm) (by simp) hpos hcell hlen).mono ?_
  rintro e w' ⟨g,cap',rfl,hown,hb⟩
  rw [Zg] at hown ⊢
  rcases hown.2 with ⟨h0,-⟩|⟨g',cap2,cur,hv,hbase,hg,k1,k2,k3,k4⟩
  ·cases h0
  cases hv
  refine ⟨_,C.at w',rfl,rfl,Le.of_below hb,SR.of_below hs hb,rfl,rfl,rfl,?_⟩
  simp only [Al,VR]
  refine ⟨_,_,_,rfl,by simp,by simpa using k1,trivial,.inr ⟨g,0,1,rfl,Tf (fun o ha=>?_) _ _ fun i x hx=>?_⟩⟩
  ·rcases ha with ha|ha
   ·have:=hs.avlt g o ha; omega
   ·have:=Acb hs (show C.Mut g o from ha); omega
  ·have hx':=hx
   rw [Ac] at hx'
   have hi:i<(uniS l).length:=Bb hx
   show w'.cell? _=_
   have hq:cur.toList[i]?=some (.string x):=by
    have:(cur.toList.take (((uniS l).map nm).length*1))[i]?=some (.string x):=by
     rw [k4,List.map_map,List.getElem?_map,hx']
     simp [nm]
    rw [List.getElem?_take] at this
    split at this
    ·exact this
    ·simp at this
   simp only [World.cell?,hg,Nat.zero_add]
   simpa using hq
end
section
def inB (n:Int):Bool:=decide (-1000000000000<=n/\n<=1000000000000)
theorem H3 {n:Int} : inB n=true↔-1000000000000<=n/\n<=1000000000000:=by simp [inB]
theorem Aha {n:Int} : inB n=false↔¬ (-1000000000000<=n/\n<=1000000000000):=by simp [inB]
def chk (ok:Bool) (n:Int):Int × Bool:=if ok && inB n then (n,true) else (0,false)
def addS (a b:Int):Int × Bool:=chk (inB a && inB b) (a+b)
def mulS (a b:Int):Int × Bool:=chk (inB a && inB b) (a*b)
def absS (n:Int):Int:=if n=-9223372036854775808 then 1000000000000 else if 0<=n then n else -n
theorem Am6 {n:Int} (h:inB n=true):absS n=n.natAbs:=by
 rw [H3] at h; unfold absS; split
 ·omega
 ·split <;> omega
theorem Ak2 (a b:Int) (h:a≠0) :
  (decide (1000000000000 / (a.natAbs:Int)<(b.natAbs:Int))=false/\-1000000000000<=a*b/\a*b<=1000000000000/\inB (a*b)=true) \/
  (decide (1000000000000 / (a.natAbs:Int)<(b.natAbs:Int))=true/\inB (a*b)=false):=by
 have hp:0<(a.natAbs:Int):=by omega
 have hab:((a*b).natAbs:Int)=(b.natAbs:Int)*a.natAbs:=by rw [Int.natAbs_mul]; push_cast; rw [Int.mul_comm]
 by_cases hc:1000000000000 / (a.natAbs:Int)<(b.natAbs:Int)
 ·right
  refine ⟨by simpa using hc,?_⟩
  rw [Int.ediv_lt_iff_lt_mul hp] at hc
  rw [Aha]
  omega
 ·left
  have hd:=hc
  rw [Int.ediv_lt_iff_lt_mul hp] at hc
  rw [H3]
  refine ⟨by simpa using hd,?_⟩
  omega
theorem drop_nil {α:Type} {l:List α} {n:Nat} (h:l.length<=n):l.drop n=[]:=List.drop_eq_nil_of_le h
end
section
open Go
def numC (x:Int):AV:=.prim (.int .i64 x)
theorem Z1 {l:List Int} {i:Nat} {x:Int} (h:nth l i=some x):nth ((l.map numC).drop i) 0=some (.prim (.int .i64 x)):=by
 have:nth (l.map numC) i=some (numC x):=by rw [Bt,h]; rfl
 exact Gm this
theorem Vr {l:List Int} {i:Nat} {x v:Int} (h:nth l i=some x):over (l.map numC) i [.prim (.int .i64 v)]=some ((l.set i v).map numC):=by
 have h1:nth (l.map numC) i=some (numC x):=by rw [Bt,h]; rfl
 rw [Vs h1]
 have:(.prim (.int .i64 v):AV)=numC v:=rfl
 rw [this,Rc,Re]
theorem Np {l:List Int} {n:Nat} (h:n<=l.length):Gi 1 n (l.map numC)=some ((l.take n).map digC):=T9 h
theorem Nq (l:List Int):J8 (some (l.map digC))=.frz (l.map digC) .unk:=by
 unfold J8
 simp only
 rw [if_pos (by simp [digC,pure1,w1,Value.oneCell'])]
 congr 1
 simp [w1,digC]
theorem Apv {m id ep n:Nat} {S:List Ent} {l:List Int} (hm:m<=id) (h:entAt S id ep=some (l.map numC)) (hn:n<=l.length):fz1 m S (.sref id ep 0 n 1)=.frz ((l.take n).map digC) .unk:=by
 rw [fz1_sref hm,h,fzB_some,List.drop_zero,Np hn,Nq]
theorem Gb {l:List Int} {n:Nat} (hn:n<=l.length) (hz:∀ j,n<=j->∀ x,nth l j=some x->x=0) (he:n=0\/∃ x,nth l (n - 1)=some x/\x≠0):B0 l=l.take n:=by
 rw [M2 n l hn hz]
 rcases he with rfl|⟨x,hx,h0⟩
 ·simp [B0]
 ·by_cases h1:n=0
  ·subst h1; simp [B0]
  ·refine V6 _ (n - 1) x ?_ (by simp; omega) h0
   rw [Ac,List.getElem?_take_of_lt (by omega),<- Ac]; exact hx
theorem Vu {n:Nat} (h:n≠0) (hl:n<=1000000):IntKind.i64.wrap ((n:Int) - 1)=((n - 1:Nat):Int):=by
 rw [Ad (by unfold i64; omega)]; omega
theorem Ve {l:List Int} {n:Nat} {x:Int} (hz:∀ j,n<=j->∀ x,nth l j=some x->x=0) (hx:nth l (n - 1)=some x) (fy:x=0):∀ j,n - 1<=j->∀ y,nth l j=some y->y=0:=fun j hj y hy=>by
 by_cases e:j=n - 1
 ·rw [e,hx] at hy; simp only [Option.some.injEq] at hy; omega
 ·exact hz j (by omega) y hy
theorem Pf (l:List Int):∀ j,l.length<=j->∀ x,nth l j=some x->x=0:=fun j hj x hx=>by have:=Bb hx; omega
theorem Al9:∀ {l r:List Int} {i:Nat} {x y:Int},l.length=r.length->okD l->okD r->nth l i=some x->nth r i=some y->x<y->(∀ j,i<j->nth l j=nth r j)->val l<val r
 | d :: l,e :: r,0,x,y,hl,h1,h2,hx,hy,dz,he=>by
  simp only [nth,Option.some.injEq] at hx hy; subst hx hy
  have:l=r:=by
   apply List.ext_getElem?
   intro j
   have:=he (j+1) (by omega)
   simp only [nth,Ac] at this; exact this
  subst this; simp only [val]; omega
 | d :: l,e :: r,i+1,x,y,hl,h1,h2,hx,hy,dz,he=>by
  have ih:=Al9 (l:=l) (r:=r) (i:=i) (by simpa using hl) (fun z hz=>h1 z (by simp [hz])) (fun z hz=>h2 z (by simp [hz])) hx hy dz fun j hj=>he (j+1) (by omega)
  have g1:=h1 d (by simp)
  have g2:=h2 e (by simp)
  simp only [val]; omega
 | [],_,_,_,_,_,_,_,hx,_,_,_=>by simp [nth] at hx
 | _ :: _,[],_,_,_,_,_,_,_,hy,_,_=>by simp [nth] at hy
def cmpN (a b:Nat):Int:=if a<b then -1 else if b<a then 1 else 0
theorem Hz {a b:Nat} (h:(dig a).length<(dig b).length):a<b:=by
 have h1:=Bf (n:=a) (k:=(dig a).length)
 have h2:=Bf (n:=b) (k:=(dig a).length)
 have h3:¬ (dig b).length<=(dig a).length:=by omega
 rw [h2] at h3
 have:=h1.1 (Nat.le_refl _)
 omega
theorem Abe {a b i:Nat} {x y:Int} (hl:(dig a).length=(dig b).length) (hx:nth (dig a) i=some x) (hy:nth (dig b) i=some y) (h:x<y) (he:∀ j,i<j->nth (dig a) j=nth (dig b) j):a<b:=by
 have:=Al9 hl (Ba a) (Ba b) hx hy h he
 rw [Bj,Bj] at this; omega
theorem Abf {a b:Nat} (he:∀ j,nth (dig a) j=nth (dig b) j):a=b:=by
 refine Anj (List.ext_getElem? fun j=>?_)
 rw [<- Ac,<- Ac]; exact he j
theorem Hj {n:Nat} (hl:n<=1000000):IntKind.i64.wrap ((n:Int) - 1)=(n:Int) - 1:=Ad (by unfold i64; omega)
theorem Ed {l:List Int} {i j:Nat} {x v:Int} (h:nth (l.set i v) j=some x):(j=i/\x=v)\/(j≠i/\nth l j=some x):=by
 rw [<- Re] at h
 by_cases e:i=j
 ·subst e; exact .inl ⟨rfl,Dl h⟩
 ·rw [Ah e] at h; exact .inr ⟨fun h=>e h.symm,h⟩
theorem Yi {l:List Int} {i:Nat} {v:Int} (h:i<l.length):nth (l.set i v) i=some v:=by
 rw [Ac,List.getElem?_set_self h]
theorem Yj {l:List Int} (h:∀ j x,nth l j=some x->0<=x/\x<10000):okD l:=fun d hd=>by
 obtain ⟨j,hj⟩:=List.mem_iff_getElem?.1 hd
 exact h j d (by rw [Ac]; exact hj)
theorem D6 {l:List Int} (h:okD l) {j:Nat} {x:Int} (hx:nth l j=some x):0<=x/\x<10000:=h x (by rw [Ac] at hx; exact List.mem_of_getElem? hx)
def padL (l:List Int) (n:Nat):List Int:=l++List.replicate (n - l.length) 0
theorem Ace {l:List Int} {n:Nat} (h:l.length<=n):(padL l n).length=n:=by simp [padL]; omega
theorem Acf (l:List Int) (n:Nat):val (padL l n)=val l:=by rw [padL,D5,Gs]; omega
theorem Ah3 {l:List Int} {n j:Nat} {x:Int} (h:nth (padL l n) j=some x):nth l j=some x\/(l.length<=j/\x=0):=by
 rw [Ac,padL] at h
 by_cases hj:j<l.length
 ·rw [List.getElem?_append_left hj] at h; left; rw [Ac]; exact h
 ·rw [List.getElem?_append_right (by omega)] at h
  right
  refine ⟨by omega,?_⟩
  have:=List.mem_of_getElem? h
  exact (List.mem_replicate.1 this).2
theorem Ajc (n:Nat):(List.replicate n [(.prim (.int .i64 0):AV)]).flatten=(List.replicate n (0:Int)).map numC:=by
 rw [Akp,List.map_replicate]; rfl
def Aov (n:Nat):List AV:=(List.replicate n (0:Int)).map numC
theorem Ahu {P:Program} {t:TypeId} {n:Nat} (hz:(A8 P t).bind (Az P)=some [.prim (.int .i64 0)]) (hs:(A8 P t).bind (szOf P)=some 1) (hb:(A8 P t).bind (Nc P)=some 8) (hn:n<=1048576) :
  mkA P t (.prim (.int .i64 (n:Int))) (.prim (.int .i64 (n:Int)))=some (n,1,Aov n):=by
 unfold mkA
 rw [hz,hs,hb,intN_cast]
 simp only [mkB]
 rw [if_pos ⟨Nat.le_refl _,hn,by omega,rfl⟩,Ajc]; rfl
theorem Ga:∀ l:List Int,B0 l=l.take (B0 l).length
 | []=>rfl
 | d :: l=>by
  rw [B0]
  split
  ·rfl
  ·simp only [List.length_cons,List.take_succ_cons]
   rw [<- Ga l]
theorem Pk (n:Nat):(0:Int)<10000 ^ n:=Int.pow_pos (by omega)
structure Plus1 (a b la i:Nat) (out:List Int):Prop where
 len:out.length=la+1
 val:val out+10000 ^ i*val ((dig b).drop i)=(a+b:Nat)
 ok:∀ j x,nth out j=some x->0<=x/\(j<i->x<=19998)/\(i<=j->x<10000)/\(j=la->x=0)
theorem Plus1.start {a b:Nat} : Plus1 a b (dig a).length 0 (padL (dig a) ((dig a).length+1)):=by
 refine ⟨Ace (by omega),?_,fun j x hx=>?_⟩
 ·rw [Acf,Bj,List.drop_zero,Bj]; simp
 ·rcases Ah3 hx with h|⟨h,rfl⟩
  ·have:=D6 (Ba a) h
   have hl:=Bb h
   exact ⟨this.1,by omega,fun _=>this.2,fun e=>by omega⟩
  ·exact ⟨by omega,by omega,by omega,fun _=>rfl⟩
theorem Plus1.step {a b la i:Nat} {out:List Int} {x d:Int} (h:Plus1 a b la i out) (hb:i<la) (hx:nth out i=some x) (hd:nth (dig b) i=some d):Plus1 a b la (i+1) (out.set i (x+d)):=by
 have l6:=D6 (Ba b) hd
 refine ⟨by rw [List.length_set]; exact h.len,?_,fun j y hy=>?_⟩
 ·have hv:=h.val
  rw [Ar hd,Go.Proofs.YtcandeobhlfkbaaGreat.val] at hv
  rw [Jd hx,<- hv,Int.pow_succ,Int.mul_add]
  have e1:x+d - x=d:=by omega
  rw [e1,Int.mul_comm d,Int.mul_assoc]; omega
 ·rcases Ed hy with ⟨rfl,rfl⟩|⟨hne,hy⟩
  ·have:=h.ok _ x hx
   exact ⟨by omega,by omega,by omega,by omega⟩
  ·have:=h.ok j y hy
   exact ⟨this.1,fun hj=>this.2.1 (by omega),fun hj=>this.2.2.1 (by omega),this.2.2.2⟩
structure Plus2 (v la i:Nat) (out:List Int):Prop where
 len:out.length=la+1
 val:val out=v
 ok:∀ j x,nth out j=some x->0<=x/\(j<i->x<10000)/\(j=i->x<=19999)/\(i<j->x<=19998)/\(j=la->x<=1/\(i<la->x=0))
theorem Plus2.start {a b la:Nat} {out:List Int} (h:Plus1 a b la (dig b).length out):Plus2 (a+b) la 0 out:=by
 refine ⟨h.len,?_,fun j x hx=>?_⟩
 ·have:=h.val
  rw [List.drop_length,Go.Proofs.YtcandeobhlfkbaaGreat.val] at this; omega
 ·have:=h.ok j x hx
  refine ⟨this.1,by omega,fun _=>?_,fun _=>?_,fun e=>⟨by have:=this.2.2.2 e; omega,fun _=>this.2.2.2 e⟩⟩
  ·rcases Nat.lt_or_ge j (dig b).length with hj|hj
   ·have:=this.2.1 hj; omega
   ·have:=this.2.2.1 hj; omega
  ·rcases Nat.lt_or_ge j (dig b).length with hj|hj
   ·exact this.2.1 hj
   ·have:=this.2.2.1 hj; omega
theorem Plus2.small {v la i:Nat} {out:List Int} {x:Int} (h:Plus2 v la i out) (hi:i<la) (hx:nth out i=some x) (h1:x<10000):Plus2 v la (i+1) out:=by
 refine ⟨h.len,h.val,fun j y hy=>?_⟩
 have:=h.ok j y hy
 refine ⟨this.1,fun hj=>?_,fun hj=>by have:=this.2.2.2.1 (by omega); omega,fun hj=>this.2.2.2.1 (by omega),fun e=>⟨(this.2.2.2.2 e).1,fun _=>(this.2.2.2.2 e).2 hi⟩⟩
 by_cases e:j=i
 ·subst e; rw [hx] at hy; simp only [Option.some.injEq] at hy; omega
 ·exact this.2.1 (by omega)
theorem Plus2.big {v la i:Nat} {out:List Int} {x y:Int} (h:Plus2 v la i out) (hi:i<la) (hx:nth out i=some x) (h1:10000<=x) (hy:nth (out.set i (x - 10000)) (i+1)=some y):Plus2 v la (i+1) ((out.set i (x - 10000)).set (i+1) (y+1)):=by
 refine ⟨by rw [List.length_set,List.length_set]; exact h.len,?_,fun j z hz=>?_⟩
 ·rw [Jd hy,Jd hx,<- h.val,Int.pow_succ]
  have e1:x - 10000 - x=-10000:=by omega
  have e2:y+1 - y=1:=by omega
  rw [e1,e2,Int.one_mul,Int.mul_comm (10000 ^ i) 10000,Int.neg_mul]; omega
 ·have y7:nth out (i+1)=some y:=by
   rcases Ed hy with ⟨e,-⟩|⟨-,hy⟩
   ·omega
   ·exact hy
  have hk:=h.ok i x hx
  have xh:=h.ok (i+1) y y7
  rcases Ed hz with ⟨rfl,rfl⟩|⟨hne,hz⟩
  ·refine ⟨by omega,by omega,fun _=>by have:=xh.2.2.2.1 (by omega); omega,by omega,fun e=>?_⟩
   have:=(xh.2.2.2.2 e).2 hi
   exact ⟨by omega,by omega⟩
  ·rcases Ed hz with ⟨rfl,rfl⟩|⟨y8,hz⟩
   ·exact ⟨by omega,fun _=>by omega,by omega,by omega,by omega⟩
   ·have:=h.ok j z hz
    exact ⟨this.1,fun hj=>this.2.1 (by omega),fun hj=>by omega,fun hj=>this.2.2.2.1 (by omega),fun e=>⟨(this.2.2.2.2 e).1,fun _=>(this.2.2.2.2 e).2 hi⟩⟩
theorem Plus2.done {v la:Nat} {out:List Int} (h:Plus2 v la la out):B0 out=dig v:=by
 have hk:okD out:=Yj fun j x hx=>by
  have:=h.ok j x hx
  have hl:=Bb hx
  rw [h.len] at hl
  refine ⟨this.1,?_⟩
  rcases Nat.lt_or_ge j la with hj|hj
  ·exact this.2.1 hj
  ·have:=(this.2.2.2.2 (by omega)).1; omega
 rw [Dp hk,h.val]; congr 1
theorem Ai8 {l:List Int} (h:okD l):val l<10000 ^ l.length:=by
 induction l with
 | nil=>simp [val]
 | cons d l ih =>
  have h1:=h d (by simp)
  have h2:=ih fun x hx=>h x (by simp [hx])
  simp only [val,List.length_cons,Int.pow_succ]; omega
theorem Aor {l:List Int} {i:Nat} {x:Int} (hl:l.length=i+1) (hx:nth l i=some x) (hk:∀ j y,j<i->nth l j=some y->0<=y/\y<10000) (h0:x<0):val l<0:=by
 have e:l=l.take i++[x]:=by
  apply List.ext_getElem?
  intro j
  rcases Nat.lt_trichotomy j i with hj|hj|hj
  ·rw [List.getElem?_append_left (by simp; omega),List.getElem?_take_of_lt hj]
  ·subst hj
   have hlj:(l.take j).length=j:=by simp; omega
   rw [List.getElem?_append_right (by omega),hlj,Nat.sub_self,<- Ac,hx]; rfl
  ·rw [List.getElem?_eq_none (by omega),List.getElem?_eq_none (by simp; omega)]
 have kw:okD (l.take i):=Yj fun j y hy=>by
  have hj:=Bb hy
  have pm:j<i:=by rw [List.length_take] at hj; omega
  refine hk j y pm ?_
  rw [Ac] at hy ⊢
  rw [List.getElem?_take_of_lt pm] at hy; exact hy
 have h1:=Ai8 kw
 have hlen:(l.take i).length=i:=by simp; omega
 rw [hlen] at h1
 rw [e,D5,hlen]
 have hp:=Pk i
 have:(10000:Int) ^ i*val [x]<=10000 ^ i*(-1):=Int.mul_le_mul_of_nonneg_left (by simp [val]; omega) (by omega)
 omega
structure Td (a b la i:Nat) (out:List Int):Prop where
 len:out.length=la
 eqv:val out - 10000 ^ i*val ((dig b).drop i)=(a:Int) - b
 ok:∀ j x,nth out j=some x->-9999<=x/\x<=9999/\(i<=j->0<=x)
theorem Td.start {a b:Nat} : Td a b (dig a).length 0 (padL (dig a) (dig a).length):=by
 refine ⟨Ace (by omega),?_,fun j x hx=>?_⟩
 ·rw [Acf,Bj,List.drop_zero,Bj]; simp
 ·rcases Ah3 hx with h|⟨h,rfl⟩
  ·have:=D6 (Ba a) h; exact ⟨by omega,by omega,fun _=>this.1⟩
  ·exact ⟨by omega,by omega,fun _=>by omega⟩
theorem Td.step {a b la i:Nat} {out:List Int} {x d:Int} (h:Td a b la i out) (hx:nth out i=some x) (hd:nth (dig b) i=some d):Td a b la (i+1) (out.set i (x - d)):=by
 have l6:=D6 (Ba b) hd
 refine ⟨by rw [List.length_set]; exact h.len,?_,fun j y hy=>?_⟩
 ·have hv:=h.eqv
  rw [Ar hd,val] at hv
  rw [Jd hx,<- hv,Int.pow_succ,Int.mul_add]
  have e1:x - d - x=-d:=by omega
  rw [e1,Int.neg_mul,Int.mul_comm d,Int.mul_assoc]; omega
 ·rcases Ed hy with ⟨rfl,rfl⟩|⟨hne,hy⟩
  ·have:=h.ok _ x hx
   exact ⟨by have:=this.2.2 (Nat.le_refl _); omega,by omega,by omega⟩
  ·have:=h.ok j y hy
   exact ⟨this.1,this.2.1,fun hj=>this.2.2 (by omega)⟩
structure Jf (v:Nat) (la i:Nat) (out:List Int):Prop where
 len:out.length=la
 eqv:val out=v
 ok:∀ j x,nth out j=some x->x<=9999/\(j<i->0<=x)/\(j=i->-10000<=x)/\(i<j->-9999<=x)
theorem Jf.start {a b la:Nat} {out:List Int} (h:Td a b la (dig b).length out) (hab:b<=a):Jf (a - b) la 0 out:=by
 refine ⟨h.len,?_,fun j x hx=>?_⟩
 ·have:=h.eqv
  rw [List.drop_length,val] at this; omega
 ·have:=h.ok j x hx; exact ⟨this.2.1,by omega,by omega,by omega⟩
theorem Jf.small {v la i:Nat} {out:List Int} {x:Int} (h:Jf v la i out) (hx:nth out i=some x) (h1:0<=x):Jf v la (i+1) out:=by
 refine ⟨h.len,h.eqv,fun j y hy=>?_⟩
 have:=h.ok j y hy
 refine ⟨this.1,fun hj=>?_,fun hj=>by have:=this.2.2.2 (by omega); omega,fun hj=>this.2.2.2 (by omega)⟩
 by_cases e:j=i
 ·subst e; rw [hx] at hy; simp only [Option.some.injEq] at hy; omega
 ·exact this.2.1 (by omega)
theorem Jf.room {v la i:Nat} {out:List Int} {x:Int} (h:Jf v la i out) (hx:nth out i=some x) (h1:x<0):i+1<la:=by
 have hi:=Bb hx
 have hl:=h.len
 rcases Nat.lt_or_ge (i+1) la with h2|h2
 ·exact h2
 ·exfalso
  have:=Aor (l:=out) (i:=i) (by omega) hx (fun j y hj hy=>by have:=h.ok j y hy; exact ⟨this.2.1 hj,by omega⟩) h1
  have:=h.eqv; omega
theorem Jf.neg {v la i:Nat} {out:List Int} {x y:Int} (h:Jf v la i out) (hx:nth out i=some x) (h1:x<0) (hy:nth (out.set i (x+10000)) (i+1)=some y):Jf v la (i+1) ((out.set i (x+10000)).set (i+1) (y - 1)):=by
 have y7:nth out (i+1)=some y:=by
  rcases Ed hy with ⟨e,-⟩|⟨-,hy⟩
  ·omega
  ·exact hy
 have hk:=h.ok i x hx
 have xh:=h.ok (i+1) y y7
 refine ⟨by rw [List.length_set,List.length_set]; exact h.len,?_,fun j z hz=>?_⟩
 ·rw [Jd hy,Jd hx,<- h.eqv,Int.pow_succ]
  have e1:x+10000 - x=10000:=by omega
  have e2:y - 1 - y=-1:=by omega
  rw [e1,e2,Int.mul_comm (10000 ^ i) 10000]; omega
 ·rcases Ed hz with ⟨rfl,rfl⟩|⟨hne,hz⟩
  ·exact ⟨by omega,by omega,fun _=>by have:=xh.2.2.2 (by omega); omega,by omega⟩
  ·rcases Ed hz with ⟨rfl,rfl⟩|⟨y8,hz⟩
   ·exact ⟨by omega,fun _=>by have:=hk.2.2.1 rfl; omega,by omega,by omega⟩
   ·have:=h.ok j z hz
    exact ⟨this.1,fun hj=>this.2.1 (by omega),fun hj=>by omega,fun hj=>this.2.2.2 (by omega)⟩
theorem Jf.done {v la:Nat} {out:List Int} (h:Jf v la la out):B0 out=dig v:=by
 have hk:okD out:=Yj fun j x hx=>by
  have:=h.ok j x hx
  have hl:=Bb hx
  rw [h.len] at hl
  exact ⟨this.2.1 hl,by omega⟩
 rw [Dp hk,h.eqv]; congr 1
theorem Pn (l:List Int) (i:Nat):val (l.drop i)=(nth l i).getD 0+10000*val (l.drop (i+1)):=by
 by_cases h:i<l.length
 ·obtain ⟨x,hx⟩:=Ab h
  rw [Ar hx,hx]; rfl
 ·rw [List.drop_eq_nil_of_le (by omega),List.drop_eq_nil_of_le (by omega),Ac,List.getElem?_eq_none (by omega)]; rfl
theorem Km (a i:Nat):0<=(nth (dig a) i).getD 0/\(nth (dig a) i).getD 0<10000:=by
 cases h:nth (dig a) i with
 | none=>simp
 | some x=>exact D6 (Ba a) h
theorem Ms {l:List Int} {x:Int} (h:okD l) (h0:0<=x) (h1:x<10000):okD (l++[x]):=fun d hd=>by
 rcases List.mem_append.1 hd with hd|hd
 ·exact h d hd
 ·simp at hd; subst hd; exact ⟨h0,h1⟩
theorem K0 (l:List Int) (x:Int):val (l++[x])=val l+10000 ^ l.length*x:=by rw [D5]; simp [val]
theorem Hc (i:Nat) (x r:Int):(10000:Int) ^ i*x+10000 ^ (i+1)*r=10000 ^ i*(x+10000*r):=by rw [Int.pow_succ,Int.mul_add,Int.mul_assoc]
structure Sum1 (a b i:Nat) (c:Int) (out:List Int):Prop where
 len:out.length=i
 ok:okD out
 c0:0<=c/\c<=1
 eqv:val out+10000 ^ i*(c+val ((dig a).drop i)+val ((dig b).drop i))=(a+b:Nat)
theorem Sum1.step {a b i:Nat} {c n:Int} {out:List Int} (h:Sum1 a b i c out) (hn:n=(nth (dig a) i).getD 0+(nth (dig b) i).getD 0+c):Sum1 a b (i+1) (n.tdiv 10000) (out++[n.tmod 10000])/\0<=n/\n<=19999/\0<=n.tmod 10000/\n.tmod 10000<10000:=by
 have h1:=Km a i
 have h2:=Km b i
 have h3:=h.c0
 have e1:n.tdiv 10000=n / 10000:=Int.tdiv_eq_ediv_of_nonneg (by omega)
 have e2:n.tmod 10000=n % 10000:=Int.tmod_eq_emod_of_nonneg (by omega)
 refine ⟨⟨by simp [h.len],Ms h.ok (by omega) (by omega),by omega,?_⟩,by omega,by omega,by omega,by omega⟩
 have hv:=h.eqv
 rw [Pn (dig a) i,Pn (dig b) i] at hv
 have:n.tmod 10000+10000*(n.tdiv 10000+val ((dig a).drop (i+1))+val ((dig b).drop (i+1)))=c+((nth (dig a) i).getD 0+10000*val ((dig a).drop (i+1)))+((nth (dig b) i).getD 0+10000*val ((dig b).drop (i+1))):=by omega
 rw [K0,h.len,Int.add_assoc,Hc,this]
 exact hv
theorem Sum1.done {a b i:Nat} {c:Int} {out:List Int} (h:Sum1 a b i c out) (h1:(dig a).length<=i) (h2:(dig b).length<=i) (h3:c=0):B0 out=dig (a+b):=by
 have hv:=h.eqv
 rw [List.drop_eq_nil_of_le h1,List.drop_eq_nil_of_le h2,h3] at hv
 simp only [val] at hv
 rw [Dp h.ok]
 congr 1; omega
structure Dif1 (a b i:Nat) (c:Int) (out:List Int):Prop where
 len:out.length=i
 ok:okD out
 c0:0<=c/\c<=1
 eqv:val out+10000 ^ i*(val ((dig a).drop i) - val ((dig b).drop i) - c)=(a:Int) - b
theorem Dif1.step {a b i:Nat} {c n d:Int} {out:List Int} (h:Dif1 a b i c out) (hd:nth (dig a) i=some d) (hn:n=d - (nth (dig b) i).getD 0 - c):(n<0->Dif1 a b (i+1) 1 (out++[n+10000]))/\(¬ n<0->Dif1 a b (i+1) 0 (out++[n]))/\-10000<=n/\n<10000:=by
 have h1:=D6 (Ba a) hd
 have h2:=Km b i
 have h3:=h.c0
 have hv:=h.eqv
 rw [Pn (dig b) i,Ar hd,val] at hv
 refine ⟨fun hn0=>⟨by simp [h.len],Ms h.ok (by omega) (by omega),by omega,?_⟩,fun hn0=>⟨by simp [h.len],Ms h.ok (by omega) (by omega),by omega,?_⟩,by omega,by omega⟩
 ·have:n+10000+10000*(val ((dig a).drop (i+1)) - val ((dig b).drop (i+1)) - 1)=d+10000*val ((dig a).drop (i+1)) - ((nth (dig b) i).getD 0+10000*val ((dig b).drop (i+1))) - c:=by omega
  rw [K0,h.len,Int.add_assoc,Hc,this]
  exact hv
 ·have:n+10000*(val ((dig a).drop (i+1)) - val ((dig b).drop (i+1)) - 0)=d+10000*val ((dig a).drop (i+1)) - ((nth (dig b) i).getD 0+10000*val ((dig b).drop (i+1))) - c:=by omega
  rw [K0,h.len,Int.add_assoc,Hc,this]
  exact hv
theorem Mj {a b:Nat} (h:b<=a):(dig b).length<=(dig a).length:=by
 rw [Bf]
 have:=(Bf (n:=a) (k:=(dig a).length)).1 (Nat.le_refl _)
 omega
theorem Dif1.done {a b:Nat} {c:Int} {out:List Int} (h:Dif1 a b (dig a).length c out) (hab:b<=a):B0 out=dig (a - b):=by
 have hv:=h.eqv
 have h3:=h.c0
 rw [List.drop_length,List.drop_eq_nil_of_le (Mj hab)] at hv
 simp only [val] at hv
 have hlt:=Ai8 h.ok
 rw [h.len] at hlt
 have hp:=Pk (dig a).length
 have hc:c=0:=by
  rcases Int.lt_or_le c 1 with h1|h1
  ·omega
  ·have:c=1:=by omega
   subst this
   have:(10000:Int) ^ (dig a).length*(0 - 0 - 1)=-(10000 ^ (dig a).length):=by omega
   omega
 subst hc
 rw [Dp h.ok]
 congr 1
 have:(10000:Int) ^ (dig a).length*(0 - 0 - 0)=0:=by simp
 omega
theorem Vp {l:List Int} {i:Nat} {x:Int} (h:okD l) (h0:0<=x) (h1:x<10000):okD (l.set i x):=fun d hd=>by
 rcases List.mem_or_eq_of_mem_set hd with hd|rfl
 ·exact h d hd
 ·exact ⟨h0,h1⟩
structure Mul1 (X Y i:Nat) (out:List Int):Prop where
 len:out.length=(dig X).length+(dig Y).length
 ok:okD out
 zero:∀ j x,i+(dig Y).length<=j->nth out j=some x->x=0
 eqv:val out+10000 ^ i*(val ((dig X).drop i)*Y)=X*Y
theorem Mul1.start (X Y:Nat):Mul1 X Y 0 (List.replicate ((dig X).length+(dig Y).length) 0):=by
 have hz:∀ (n j:Nat) (x:Int),nth (List.replicate n (0:Int)) j=some x->x=0:=fun n j x h=>by
  rw [Ac] at h
  exact (List.mem_replicate.1 (List.mem_of_getElem? h)).2
 refine ⟨by simp,Yj fun j x hx=>by rw [hz _ _ _ hx]; omega,fun j x _ hx=>hz _ _ _ hx,?_⟩
 rw [Gs,List.drop_zero,Bj]; simp
structure Mul2 (X Y i k:Nat) (v d c:Int) (out:List Int):Prop where
 len:out.length=(dig X).length+(dig Y).length
 ok:okD out
 zero:∀ j x,i+(dig Y).length<=j->(k<=(dig Y).length\/i+(dig Y).length<j)->nth out j=some x->x=0
 c0:0<=c/\c<10000
 eqv:val out+10000 ^ (i+k)*(c+d*val ((dig Y).drop k))=v
theorem Mul2.start {X Y i:Nat} {d:Int} {out:List Int} (h:Mul1 X Y i out):Mul2 X Y i 0 (val out+10000 ^ i*(d*Y)) d 0 out :=
 ⟨h.len,h.ok,fun j x hj _ hx=>h.zero j x hj hx,by omega,by rw [List.drop_zero,Bj]; simp⟩
theorem Mul2.step {X Y i k:Nat} {v d c x n:Int} {out:List Int} (h:Mul2 X Y i k v d c out) (hk:k<=(dig Y).length) (hd:0<=d/\d<10000) (hx:nth out (i+k)=some x) (hn:n=c+x+d*(nth (dig Y) k).getD 0) :
  Mul2 X Y i (k+1) v d (n.tdiv 10000) (out.set (i+k) (n.tmod 10000))/\0<=n/\n<=99999999/\n.tdiv 10000=n / 10000:=by
 have h1:=Km Y k
 have h2:=D6 h.ok hx
 have h3:=h.c0
 have hp0:0<=d*(nth (dig Y) k).getD 0:=Int.mul_nonneg hd.1 h1.1
 have uh:d*(nth (dig Y) k).getD 0<=9999*9999:=Int.mul_le_mul (by omega) (by omega) h1.1 (by omega)
 have e1:n.tdiv 10000=n / 10000:=Int.tdiv_eq_ediv_of_nonneg (by omega)
 have e2:n.tmod 10000=n % 10000:=Int.tmod_eq_emod_of_nonneg (by omega)
 refine ⟨⟨by rw [List.length_set]; exact h.len,Vp h.ok (by omega) (by omega),fun j y hj hjk hy=>?_,by omega,?_⟩,by omega,by omega,e1⟩
 ·rcases Ed hy with ⟨rfl,rfl⟩|⟨hne,hy⟩
  ·have hkk:k=(dig Y).length:=by omega
   omega
  ·exact h.zero j y hj (by omega) hy
 ·have hv:=h.eqv
  rw [Pn (dig Y) k] at hv
  have gi:d*((nth (dig Y) k).getD 0+10000*val ((dig Y).drop (k+1)))=d*(nth (dig Y) k).getD 0+10000*(d*val ((dig Y).drop (k+1))):=by
   rw [Int.mul_add,Int.mul_left_comm]
  rw [gi] at hv
  rw [Jd hx,Int.add_assoc,<- Nat.add_assoc,Int.mul_comm (n.tmod 10000 - x),Hc,<- hv]
  congr 2
  omega
theorem Mul2.next {X Y i:Nat} {d c x:Int} {o out:List Int} (h:Mul2 X Y i (dig Y).length (val o+10000 ^ i*(d*Y)) d c out) (h0:Mul1 X Y i o) (hd:nth (dig X) i=some d) (hx:nth out (i+(dig Y).length)=some x):x=0/\Mul1 X Y (i+1) (out.set (i+(dig Y).length) (x+c)):=by
 have fy:=h.zero _ x (Nat.le_refl _) (.inl (Nat.le_refl _)) hx
 subst fy
 have h3:=h.c0
 refine ⟨rfl,by rw [List.length_set]; exact h.len,Vp h.ok (by omega) (by omega),fun j y hj hy=>?_,?_⟩
 ·rcases Ed hy with ⟨rfl,rfl⟩|⟨hne,hy⟩
  ·omega
  ·exact h.zero j y (by omega) (.inl (Nat.le_refl _)) hy
 ·have hv:=h.eqv
  rw [List.drop_length] at hv
  simp only [val,Int.mul_zero,Int.add_zero] at hv
  have ip:=h0.eqv
  rw [Ar hd,val] at ip
  rw [Jd hx,<- ip]
  have e1:(0:Int)+c - 0=c:=by omega
  rw [e1,Int.mul_comm c,hv,Int.add_assoc,Hc]
  congr 2
  rw [Int.add_mul,Int.mul_assoc]
theorem Mul2.last {X Y i k:Nat} {d c:Int} {o out:List Int} (h:Mul2 X Y i k (val o+10000 ^ i*(d*Y)) d c out) (hk:(dig Y).length<=k) (hc:c=0) (h0:Mul1 X Y i o) (hd:nth (dig X) i=some d):Mul1 X Y (i+1) out:=by
 refine ⟨h.len,h.ok,fun j y hj hy=>h.zero j y (by omega) (by omega) hy,?_⟩
 have hv:=h.eqv
 rw [List.drop_eq_nil_of_le hk,hc] at hv
 simp only [val,Int.mul_zero,Int.add_zero] at hv
 have ip:=h0.eqv
 rw [Ar hd,val] at ip
 rw [<- ip,hv,Int.add_assoc,Hc]
 congr 2
 rw [Int.add_mul,Int.mul_assoc]
theorem Mul1.done {X Y:Nat} {out:List Int} (h:Mul1 X Y (dig X).length out):B0 out=dig (X*Y):=by
 have hv:=h.eqv
 rw [List.drop_length] at hv
 simp only [val,Int.zero_mul,Int.mul_zero,Int.add_zero] at hv
 rw [Dp h.ok,hv]
 congr 1
section
variable (S:List Ent) (tk:List Nat) (k:Nat)
theorem Ld {X Y m n:Nat} (ha:(dig X).length<=m) (hb:(dig Y).length<=n):(dig (X*Y)).length<=m+n:=by
 rw [Bf] at ha hb ⊢
 rw [Nat.pow_add]
 exact Nat.mul_lt_mul'' ha hb
end
def sg (p:Bool) (n:Nat):Int:=if p=true then -(n:Int) else n
def okZ (z:Int):Bool:=!decide (200<(dig z.natAbs).length)
theorem Aqb (p:Bool) (n:Nat):(sg p n).natAbs=n:=by unfold sg; split <;> omega
theorem V_sg (p:Bool) (l:List Int):V p l=sg p (V p l).natAbs:=by
 unfold V
 cases h:Ej p l with
 | false=>cases p <;> simp [sg]
 | true =>
  have h3:=Dv (Kc h).2.1
  cases p <;> simp [sg] <;> omega
theorem Ap2 (p q:Bool) (X Y:Nat):sg (p != q) (X*Y)=sg p X*sg q Y:=by
 cases p <;> cases q <;> simp [sg,Int.neg_mul,Int.mul_neg]
theorem Apk {p q:Bool} (h:p≠q) {X Y:Nat} (hl:Y<=X):sg p (X - Y)=sg p X+sg q Y:=by
 cases p <;> cases q <;> simp [sg] at h ⊢ <;> omega
def cmpZ (x y:Int):Int:=if x<y then -1 else if y<x then 1 else 0
end
section
open Go Tryz
section
variable (S:List Ent) (tk:List Nat) (k:Nat)
theorem Aig (a b:Nat) (ha:(dig a).length<=1000000) (hb:(dig b).length<=1000000):cL prog 179 [digA (dig a),digA (dig b)] S tk k=some (.int (cmpN a b),S,tk,k):=by
 refine opP func179 ntmps179 ?_
 by_cases hl:(dig a).length=(dig b).length
 case neg =>
  have d1:(((dig a).length:Int) != ((dig b).length:Int))=true:=by simp; omega
  rcases Nat.lt_or_ge (dig a).length (dig b).length with h|h
  ·have d2:decide (((dig a).length:Int)<((dig b).length:Int))=true:=by simpa using h
   have:=Hz h
   simp (maxSteps:=10^6)+contextual(disch:=try exact dqd)only[ev0,simprocAttr,AV.int,AV.bool,AV.str,results179,digA,d1,d2]
   simp [cmpN,this]
  ·have d2:decide (((dig a).length:Int)<((dig b).length:Int))=false:=by simp; omega
   have:=Hz (a:=b) (b:=a) (by omega)
   simp (maxSteps:=10^6)+contextual(disch:=try exact dqd)only[ev0,simprocAttr,AV.int,AV.bool,AV.str,results179,digA,d1,d2]
   rw [cmpN,if_neg (by omega),if_pos this]
 have d1:(((dig a).length:Int) != ((dig b).length:Int))=false:=by simp; omega
 have d3:=Hj ha
 simp (maxSteps:=10^6)+contextual(disch:=try exact dqd)only[ev0,simprocAttr,AV.int,AV.bool,AV.str,results179,digA,d1,d3]
 refine loop1 (P:=prog) (fun x st=>st.T.length=41/\(x<=(dig a).length)/\(∀ j,x<=j->nth (dig a) j=nth (dig b) j)/\getT st.T 0=digA (dig a)/\getT st.T 1=digA (dig b)/\getT st.T 5=.int ((x:Int) - 1)/\st.S=[]) (fun x=>x) (fun x=>.int (cmpN a b)) ((dig a).length) ?_ ?_
 case refine_2=>exact ⟨rfl,Nat.le_refl _,fun j hj=>by rw [Ac,Ac,List.getElem?_eq_none hj,List.getElem?_eq_none (by omega)],rfl,rfl,rfl,rfl⟩
 rintro n ⟨T,S',tk',n'⟩ ⟨hl,hn,he,e0,e1,e5,eS⟩ IH
 subst eS
 obtain ⟨g,hg,hT⟩:=Ap hl
 rw [hg] at e0 e1 e5
 subst hT
 clear hg hl
 by_cases h0:n=0
 ·have d2:decide ((n:Int) - 1 >= 0)=false:=by simp; omega
  have:=Abf fun j=>he j (by omega)
  subst this
  simp (maxSteps:=10^6)+contextual(disch:=try exact dqd)only[ev0,simprocAttr,AV.int,AV.bool,AV.str,results179,e0,e1,e5,d2,digA]
  simp [cmpN]
 ·have d2:decide ((n:Int) - 1 >= 0)=true:=by simp; omega
  have hi:(n:Int) - 1=((n - 1:Nat):Int):=by omega
  obtain ⟨x,hx⟩:=Ab (show n - 1<(dig a).length by omega)
  obtain ⟨y,hy⟩:=Ab (show n - 1<(dig b).length by omega)
  have hx':=B9 hx
  have eh:=B9 hy
  have ja:∀ j,n - 1<j->nth (dig a) j=nth (dig b) j:=fun j hj=>he j (by omega)
  have hp:=Hj (n:=n - 1) (by omega)
  rw [hi] at e5 d2
  by_cases dz:x=y
  ·have d4:(x != y)=false:=by simpa using dz
   simp (maxSteps:=10^6)+contextual(disch:=try exact dqd)only[ev0,simprocAttr,AV.int,AV.bool,AV.str,results179,e0,e1,e5,d2,d4,digA,hx',eh,hp]
   exact IH (n - 1) _ (by first|omega|(simp only; omega)) ⟨rfl,by first|omega|(dsimp only; omega),fun j hj=>by by_cases e:j=n - 1; (· rw [e,hx,hy,dz]); exact ja j (by first|omega|(dsimp only; omega)),(by first|rfl|simp only [getT,List.map_append,List.map_cons,List.map_nil,digC,digA]),(by first|rfl|simp only [getT,List.map_append,List.map_cons,List.map_nil,digC,digA]),(by first|rfl|simp only [getT,List.map_append,List.map_cons,List.map_nil,digC,digA]),(by first|rfl|simp only [getT,List.map_append,List.map_cons,List.map_nil,digC,digA])⟩
  ·have d4:(x != y)=true:=by simpa using dz
   by_cases h1:x<y
   ·have d5:decide (x<y)=true:=by simpa using h1
    have:=Abe hl hx hy h1 ja
    simp (maxSteps:=10^6)+contextual(disch:=try exact dqd)only[ev0,simprocAttr,AV.int,AV.bool,AV.str,results179,e0,e1,e5,d2,d4,d5,digA,hx',eh,hp]
    simp [cmpN,this]
   ·have d5:decide (x<y)=false:=by simpa using h1
    have:=Abe hl.symm hy hx (by omega) fun j hj=>(ja j hj).symm
    simp (maxSteps:=10^6)+contextual(disch:=try exact dqd)only[ev0,simprocAttr,AV.int,AV.bool,AV.str,results179,e0,e1,e5,d2,d4,d5,digA,hx',eh,hp]
    rw [cmpN,if_neg (by omega),if_pos this]
theorem Ys (l:List Int) (id ep:Nat) (hlen:l.length<=1000000) (h:entAt S id ep=some (l.map numC)):cL prog 180 [.sref id ep 0 l.length 1] S tk k=some (.sref id ep 0 (B0 l).length 1,S,tk,k):=by
 refine opS func180 ntmps180 ?_
 have hid:id<S.length:=by
  obtain ⟨e,h1,-⟩:=B7 h
  exact Bb h1
 simp (maxSteps:=10^6)+contextual(disch:=try exact dqd)only[evs0,simprocAttr,AV.int,AV.bool,AV.str,results180]
 refine An6 (P:=prog) (fun x st=>st.T.length=21/\(x<=l.length)/\(∀ j,x<=j->∀ x,nth l j=some x->x=0)/\getT st.T 0=.sref id ep 0 x 1/\st.S=S/\st.tk=tk/\st.n=k) (fun x=>x) (fun x=>(.sref id ep 0 (B0 l).length 1,S,tk,k)) (l.length) ?_ ?_
 case refine_2=>exact ⟨rfl,Nat.le_refl _,Pf l,rfl,rfl,rfl,rfl⟩
 rintro n ⟨T,S',tk',n'⟩ ⟨hl,hn,hz,e0,eS,eT,eN⟩ IH
 subst eS eT eN
 obtain ⟨g,hg,hT⟩:=Ap hl
 rw [hg] at e0
 subst hT
 clear hg hl
 by_cases h0:n=0
 ·have d1:decide ((n:Int) > 0)=false:=by simp; omega
  have ht:=Gb hn hz (.inl h0)
  simp (maxSteps:=10^6)+contextual(disch:=try exact dqd)only[evs0,simprocAttr,AV.int,AV.bool,AV.str,results180,e0,d1]
  rw [ht]; simp [h0]
 ·have d1:decide ((n:Int) > 0)=true:=by simp; omega
  have hp:=Vu h0 (by omega)
  have bm:n - 1<l.length:=by omega
  have db:n - 1<n:=by omega
  have jx:n - 1<=n:=by omega
  obtain ⟨x,hx⟩:=Ab bm
  have hx':=Z1 hx
  by_cases fy:x=0
  ·have d2:(x == 0)=true:=by simpa using fy
   simp (maxSteps:=10^6)+contextual(disch:=try exact dqd)only[evs0,simprocAttr,AV.int,AV.bool,AV.str,results180,e0,d1,d2,hp,hx',h,bm,db,jx,Nat.mul_one,Hd,bound,intN_cast,Nat.le_refl,Nat.zero_le,Nat.zero_mul,Nat.sub_zero,Nat.add_zero]
   exact IH (n - 1) _ (by first|omega|(simp only; omega)) ⟨rfl,by first|omega|(dsimp only; omega),Ve hz hx fy,by and_intros <;> first|rfl|simp only [getT,List.map_append,List.map_cons,List.map_nil,digC,digA]⟩
  ·have d2:(x == 0)=false:=by simpa using fy
   have ht:=Gb hn hz (.inr ⟨x,hx,fy⟩)
   simp (maxSteps:=10^6)+contextual(disch:=try exact dqd)only[evs0,simprocAttr,AV.int,AV.bool,AV.str,results180,e0,d1,d2,hp,hx',h,bm,db,Nat.mul_one,Hd,bound,intN_cast,hn,Nat.le_refl,Nat.zero_le,Nat.zero_mul,Nat.sub_zero,Nat.add_zero]
   rw [ht]; simp; omega
set_option maxRecDepth 100000 in
theorem Aaa (X Y:Nat) (ha:(dig X).length<=100000) (hb:(dig Y).length<=100000):cL prog 182 [digA (dig X),digA (dig Y)] S tk k=some (digA (dig (X*Y)),S,tk,k):=by
 refine opP func182 ntmps182 ?_
 have hw:IntKind.i64.wrap (((dig X).length:Int)+((dig Y).length:Int))=(((dig X).length+(dig Y).length:Nat):Int):=by rw [Ad (by unfold i64; omega)]; omega
 have uz:(A8 prog 45).bind (Nc prog)=some 8:=by kernel_rfl
 have je:=Ahu (P:=prog) (t:=45) (n:=(dig X).length+(dig Y).length) (by simp only [tys,Option.bind_some]) (by simp only [tys,Option.bind_some]) uz (by omega)
 simp (maxSteps:=10^6)+contextual(disch:=try exact dqd)only[ev0,simprocAttr,AV.int,AV.bool,AV.str,results182,digA,hw,je]
 refine loop1 (P:=prog) (fun x st=>st.T.length=67/\(x.1<=(dig X).length)/\(Mul1 X Y x.1 x.2)/\getT st.T 0=digA (dig X)/\getT st.T 1=digA (dig Y)/\getT st.T 5=.sref 0 0 0 ((dig X).length+(dig Y).length) 1/\getT st.T 18=digA (dig X)/\getT st.T 19=.int (dig X).length/\getT st.T 20=.int (x.1:Nat)/\st.S=[⟨0,x.2.map numC⟩]) (fun x=>(dig X).length - x.1) (fun x=>digA (dig (X*Y))) (0,List.replicate ((dig X).length+(dig Y).length) 0) ?_ ?_
 case refine_2=>exact ⟨rfl,Nat.zero_le _,Mul1.start X Y,rfl,rfl,rfl,rfl,rfl,rfl,rfl⟩
 rintro ⟨i,out⟩ ⟨T,S',tk',n'⟩ ⟨hl,hi,hp,e0,e1,e5,e18,e19,e20,eS⟩ IH
 simp only at hi hp e0 e1 e5 e18 e19 e20 eS
 subst eS
 obtain ⟨g,hg,hT⟩:=Ap hl
 rw [hg] at e0 e1 e5 e18 e19 e20
 subst hT
 clear hg hl
 have OUT:=IH
 clear IH
 have hlen:=hp.len
 by_cases hlt:i<(dig X).length
 ·have d2:decide ((i:Int)<((dig X).length:Int))=true:=by simpa using hlt
  obtain ⟨d,hd⟩:=Ab hlt
  have bj:=B9 hd
  have l6:=D6 (Ba X) hd
  have a8:=Av (i:=i) (by omega)
  have ai:=Mul2.start (d:=d) hp
  simp (maxSteps:=10^6)+contextual(disch:=try exact dqd)only[ev0,simprocAttr,AV.int,AV.bool,AV.str,results182,digA,e0,e1,e5,e18,e19,e20,d2,bj]
  refine loop1 (P:=prog) (fun x st=>st.T.length=67/\(x.1<=(dig Y).length)/\(Mul2 X Y i x.1 (val out+10000 ^ i*(d*Y)) d x.2.1 x.2.2)/\getT st.T 0=digA (dig X)/\getT st.T 1=digA (dig Y)/\getT st.T 5=.sref 0 0 0 ((dig X).length+(dig Y).length) 1/\getT st.T 6=.int (i:Nat)/\getT st.T 7=.int d/\getT st.T 8=.int x.2.1/\getT st.T 18=digA (dig X)/\getT st.T 19=.int (dig X).length/\getT st.T 20=.int (i:Nat)/\getT st.T 25=digA (dig Y)/\getT st.T 26=.int (dig Y).length/\getT st.T 27=.int (x.1:Nat)/\st.S=[⟨0,x.2.2.map numC⟩]) (fun x=>(dig Y).length - x.1) (fun x=>digA (dig (X*Y))) (0,0,out) ?_ ?_
  case refine_2=>exact ⟨rfl,Nat.zero_le _,ai,rfl,rfl,rfl,rfl,rfl,rfl,rfl,rfl,rfl,rfl,rfl,rfl,rfl⟩
  rintro ⟨m,c,o2⟩ ⟨T,S',tk',n'⟩ ⟨hl,hm,hq,e0,e1,e5,e6,e7,e8,e18,e19,e20,e25,e26,e27,eS⟩ IH
  simp only at hm hq e0 e1 e5 e6 e7 e8 e18 e19 e20 e25 e26 e27 eS
  subst eS
  obtain ⟨g,hg,hT⟩:=Ap hl
  rw [hg] at e0 e1 e5 e6 e7 e8 e18 e19 e20 e25 e26 e27
  subst hT
  clear hg hl
  have a0t:=hq.len
  have q8:=hq.c0
  have hmw:=Av (i:=m) (by omega)
  obtain ⟨x,hx⟩:=Ab (show i+m<o2.length by omega)
  have hx':=Z1 hx
  have c7:i+m<(dig X).length+(dig Y).length:=by omega
  have kd:IntKind.i64.wrap ((i:Int)+(m:Int))=((i+m:Nat):Int):=by rw [Ad (by unfold i64; omega)]; omega
  have hxk:=D6 hq.ok hx
  by_cases cm:m<(dig Y).length
  ·have d3:decide ((m:Int)<((dig Y).length:Int))=true:=by simpa using cm
   obtain ⟨y,hy⟩:=Ab cm
   have eh:=B9 hy
   have hyk:=D6 (Ba Y) hy
   obtain ⟨n,hn⟩:∃ n,n=c+x+d*y:=⟨_,rfl⟩
   obtain ⟨hq2,hn0,bm,db⟩:=hq.step (n:=n) (by omega) l6 hx (by rw [hn,hy]; rfl)
   have hp0:0<=d*y:=Int.mul_nonneg l6.1 hyk.1
   have hw1:IntKind.i64.wrap (d*y)=d*y:=Ad (by unfold i64; omega)
   have hw2:IntKind.i64.wrap (x+d*y)=x+d*y:=Ad (by unfold i64; omega)
   have hw3:IntKind.i64.wrap (x+d*y+c)=n:=by rw [hn,Ad (by unfold i64; omega)]; omega
   have mn:IntKind.i64.wrap (n.tdiv 10000)=n.tdiv 10000:=by rw [db,Ad (by unfold i64; omega)]
   have ez:¬ ((10000:Int)=0):=by omega
   have jv:=Vr (v:=n.tmod 10000) hx
   simp (maxSteps:=10^6)+contextual(disch:=try exact dqd)only[ev0,simprocAttr,AV.int,AV.bool,AV.str,results182,digA,e0,e1,e5,e6,e7,e8,e18,e19,e20,e25,e26,e27,d3,eh,hmw,kd,c7,hx',hw1,hw2,hw3,mn,ez,jv,Nat.mul_one]
   exact IH (m+1,n.tdiv 10000,o2.set (i+m) (n.tmod 10000)) _ (by first|omega|(simp only; omega)) ⟨rfl,by first|omega|(dsimp only; omega),hq2,(by first|rfl|simp only [getT,List.map_append,List.map_cons,List.map_nil,digC,digA]),(by first|rfl|simp only [getT,List.map_append,List.map_cons,List.map_nil,digC,digA]),(by first|rfl|simp only [getT,List.map_append,List.map_cons,List.map_nil,digC,digA]),(by first|rfl|simp only [getT,List.map_append,List.map_cons,List.map_nil,digC,digA]),(by first|rfl|simp only [getT,List.map_append,List.map_cons,List.map_nil,digC,digA]),(by first|rfl|simp only [getT,List.map_append,List.map_cons,List.map_nil,digC,digA]),(by first|rfl|simp only [getT,List.map_append,List.map_cons,List.map_nil,digC,digA]),(by first|rfl|simp only [getT,List.map_append,List.map_cons,List.map_nil,digC,digA]),(by first|rfl|simp only [getT,List.map_append,List.map_cons,List.map_nil,digC,digA]),(by first|rfl|simp only [getT,List.map_append,List.map_cons,List.map_nil,digC,digA]),(by first|rfl|simp only [getT,List.map_append,List.map_cons,List.map_nil,digC,digA]),(by first|rfl|simp only [getT,List.map_append,List.map_cons,List.map_nil,digC,digA]),(by first|rfl|simp only [getT,List.map_append,List.map_cons,List.map_nil,digC,digA])⟩
  ·have d3:decide ((m:Int)<((dig Y).length:Int))=false:=by simpa using cm
   have hme:m=(dig Y).length:=by omega
   subst hme
   obtain ⟨-,mo⟩:=hq.next hp hd hx
   have hw4:IntKind.i64.wrap (x+c)=x+c:=Ad (by unfold i64; omega)
   have jv:=Vr (v:=x+c) hx
   simp (maxSteps:=10^6)+contextual(disch:=try exact dqd)only[ev0,simprocAttr,AV.int,AV.bool,AV.str,results182,digA,e0,e1,e5,e6,e7,e8,e18,e19,e20,e25,e26,e27,d3,a8,kd,c7,hx',hw4,jv,Nat.mul_one]
   exact OUT (i+1,o2.set (i+(dig Y).length) (x+c)) _ (by first|omega|(simp only; omega)) ⟨rfl,by first|omega|(dsimp only; omega),mo,(by first|rfl|simp only [getT,List.map_append,List.map_cons,List.map_nil,digC,digA]),(by first|rfl|simp only [getT,List.map_append,List.map_cons,List.map_nil,digC,digA]),(by first|rfl|simp only [getT,List.map_append,List.map_cons,List.map_nil,digC,digA]),(by first|rfl|simp only [getT,List.map_append,List.map_cons,List.map_nil,digC,digA]),(by first|rfl|simp only [getT,List.map_append,List.map_cons,List.map_nil,digC,digA]),(by first|rfl|simp only [getT,List.map_append,List.map_cons,List.map_nil,digC,digA]),(by first|rfl|simp only [getT,List.map_append,List.map_cons,List.map_nil,digC,digA])⟩
 ·have d2:decide ((i:Int)<((dig X).length:Int))=false:=by simpa using hlt
  have he:i=(dig X).length:=by omega
  subst he
  have fm:=hp.done
  have hT:=Ys [⟨0,out.map numC⟩] tk' n' out 0 0 (by omega) rfl
  rw [hlen] at hT
  rw [fm] at hT
  simp (maxSteps:=10^6)+contextual(disch:=try exact dqd)only[ev0,simprocAttr,AV.int,AV.bool,AV.str,results182,digA,e0,e1,e5,e18,e19,e20,d2,hT]
  have cq:J8 (Gi 1 (dig (X*Y)).length (out.map numC))=.frz ((dig (X*Y)).map digC) .unk:=by
   rw [<- fm,Np (M1 out),Nq,<- Ga]
  rw [cq]
end
end
end Go.Proofs.YtcandeobhlfkbaaGreat
