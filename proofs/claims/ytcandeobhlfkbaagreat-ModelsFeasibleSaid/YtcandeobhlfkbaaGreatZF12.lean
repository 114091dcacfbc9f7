/- Part 12. -/
import Derived.Test.YtcandeobhlfkbaaGreatZF11
import Derived.Sort.OwnSorted
import Derived.Sort.Grow
import Derived.Lib.OwnBridge
import Derived.Laws.AppendOwn
import Derived.Laws.AppendOwnNone
import Derived.Lib.Hide
open Bool renaming or_eq_true->F8
open Go.IntKind renaming i64->Cf
open Go.Lib renaming hid->Cm
open Go.Proofs.YtcandeobhlfkbaaGreat.AV renaming bool->Cb,int->Cd,str->Ce
open Go.RowKit.Below renaming refl->C5
open Go.Value renaming oneCell'->S8
open Go.World renaming cell?->Fz
open Int renaming tdiv_eq_ediv_of_nonneg->Fp,mul_comm->F6,natAbs_mul->Ie,mul_assoc->Ii,tmod_eq_emod_of_nonneg->Iq,pow_succ->Oi,mul_add->Ow,mul_zero->Su,add_zero->gI,add_assoc->gZ,neg_mul->iD,mul_nonneg->iX
open List renaming replicate->Ci,length_cons->Ck,map_cons->Cp,getElem?_append_left->Ct,nil_append->Cw,mem_append->C4,getElem?_append_right->C6,getElem?_eq_none->C9,map_nil->Fi,drop_length->Fo,length_map->Fq,drop_eq_nil_of_le->Ft,getElem?_map->Fw,take_succ_cons->F1,append_nil->F4,drop_zero->F7,mem_map->F9,map_append->Ij,mem_of_getElem?->Ik,mem_replicate->Im,getElem?_take_of_lt->Io,getElem?_take->Iu,length_take->Ix,length_pos_iff->Lo,map_congr_left->fT,map_map->iM,map_replicate->iT
open Nat renaming le_refl->Cc,zero_le->Co,zero_add->Fg,lt_or_ge->F3,mul_one->Ib,sub_self->I4,add_zero->M9,lt_trichotomy->Oh,zero_mul->O0,add_assoc->gY
open Option renaming map_eq_some_iff->Ca,bind_some->I7
open Option.some renaming injEq->A2
namespace Go.Proofs.YtcandeobhlfkbaaGreat
section
open Go Tryz Go.RowKit Go.Sort
set_option maxHeartbeats 2000000
set_option maxRecDepth 100000
theorem Ash:(prog.info? 9).map (fun i=>(i.zero,i.size,i.bytes))=some (some (.string ⟨#[]⟩),1,16):=aL
theorem Agy (w:World):Calls prog 48 #[.slice none 0 0,.slice none 0 0] w fun e w'=>∃ a,e=.returned (.slice a 0 0)/\Below w.heap.size w w':=by
 go_enter func48,ntmps48;go_wp2_with (go_at_call 73; refine (Tryz.slices_Sort_string_none _ _ _).mono ?_; rintro e w' ⟨rfl,rfl⟩);go_wp2_with (go_at_call 74; refine (Tryz.slices_Compact_string_empty _ _ _).mono ?_; rintro e w' ⟨rfl,rfl⟩);go_ret;exact ⟨_,rfl,(C5 _ _).alloc (Cc _) _⟩
theorem Alj {w w1:World} {g cap n nn q:Nat} {os:Array Obj} {ss:List (List UInt8)} (hown:w1.ownsRow w.heap.size 9 1 (.slice (some ⟨g,0,none⟩) n cap) n (ss.map encStr)) (hbel:Below w.heap.size w w1) (hbg:w.heap.size<=g) (hlen:ss.length=n) :
  ∃ g' cap',(Ending.returned (.slice (some ⟨g,0,none⟩) (Lib.compact (ss.mergeSort fun x y=>decide (x<=y))).length cap))=.returned (.slice (some ⟨g',0,none⟩) (Lib.compact (ss.mergeSort fun x y=>decide (x<=y))).length cap') /\
   (putRow encStr (Sort.ahead (grow (putRow encStr (Sort.ahead w1 nn) g 0 (ss.mergeSort fun x y=>decide (x<=y)).toArray) os) q) g 0 (Lib.compact (ss.mergeSort fun x y=>decide (x<=y))++Ci (n - (Lib.compact (ss.mergeSort fun x y=>decide (x<=y))).length) []).toArray).ownsRow w.heap.size 9 1 (.slice (some ⟨g',0,none⟩) (Lib.compact (ss.mergeSort fun x y=>decide (x<=y))).length cap') (Lib.compact (ss.mergeSort fun x y=>decide (x<=y))).length ((Lib.compact (ss.mergeSort fun x y=>decide (x<=y))).map encStr) /\
   Below w.heap.size w (putRow encStr (Sort.ahead (grow (putRow encStr (Sort.ahead w1 nn) g 0 (ss.mergeSort fun x y=>decide (x<=y)).toArray) os) q) g 0 (Lib.compact (ss.mergeSort fun x y=>decide (x<=y))++Ci (n - (Lib.compact (ss.mergeSort fun x y=>decide (x<=y))).length) []).toArray):=by
 have hl2:(ss.mergeSort fun x y=>decide (x<=y)).length=ss.length:=List.length_mergeSort ss;have hle:=Lib.compact_length_le (ss.mergeSort fun x y=>decide (x<=y));subst hlen;rcases hown.2 with ⟨h0,_⟩|⟨g',cap',cur,hv,hbase,hb,h1,h2,h3,h4⟩
 ·cases h0
 cases hv;have hs:=ownsRow_sorted (n:=nn) (os:=os) (ts:=ss.mergeSort fun x y=>decide (x<=y)) hl2 hbase hb h1 h2 h3;have hc:=Lib.ownsRow_putRow (q:=q) (k:=(Lib.compact (ss.mergeSort fun x y=>decide (x<=y))).length) (ys:=Lib.compact (ss.mergeSort fun x y=>decide (x<=y))++Ci (ss.length - (Lib.compact (ss.mergeSort fun x y=>decide (x<=y))).length) []) hs aB aA;rw [List.take_left] at hc;exact ⟨g,cap,rfl,hc,Lib.below_putRow (hbel.grown (grownBy_sorted _) hbel.size (fun j hj=>by cases hj; exact hbase)) hbg⟩
theorem Ali {w:World} {b o len cap:Nat} {ss:List (List UInt8)} (hl:ss.length=len) (hc:∀ j u,(ss.map encStr)[j]?=some u->w.cell? ⟨b,o+j,none⟩=some u) (hbig:len<=1000000) {ops:Array Oper} {rest:List Oper} {op:Oper} {a:Act} {Q:Exit->Act->World->Prop}
  (hgd:op.guard=none) (ho:op.op=.call { callee:=.builtin .append,args:=#[.tmp 6,.tmp 7],argTypes:=#[41,41] }) (h6:a.eval (.tmp 6)=.slice (some ⟨w.heap.size,0,none⟩) 0 0) (h7:a.eval (.tmp 7)=.slice (some ⟨b,o,none⟩) len cap)
  (h:∀ v' w',w'.ownsRow w.heap.size 9 1 v' len (ss.map encStr)->Below w.heap.size w w'->v'≠.slice none 0 0->wpList prog ops Q rest (a.put op.dst v') w'):wpList prog ops Q (op :: rest) a (w.alloc (.cells #[] 9)):=by
 obtain ⟨i0,hi,hz0,hz1,hz2⟩:=info_parts Ash;have hbel0:Below w.heap.size w (w.alloc (.cells #[] 9)):=(C5 _ _).alloc (Cc _) _;refine wpList_append_own _ hgd _ _ 41 ho w.heap.size 9 i0 (.string ⟨#[]⟩) 1 16 underlying41 hi hz0 hz1 hz2 rfl aH (.slice (some ⟨w.heap.size,0,none⟩) 0 0) 0 [] h6 (World.ownsRow_made w #[] 0 (Cc _) aH rfl) ⟨b,o,none⟩ len cap (ss.map encStr) h7 (by rw [Fq,hl,Ib]) (fun j u hj=>?_) (fun u hu=>?_) eF aA hbel0.size (fun v' w' hown hg hn=>?_)
 ·have:=hc j u hj;rw [Du,hbel0.cell (Ea this)]; exact this
 ·obtain ⟨x,-,rfl⟩:=F9.1 hu;rfl
 ·rw [Fg,Cw] at hown;refine h v' w' hown (hbel0.grown hg hbel0.size fun j hj=>?_) fun e=>?_
  ·simp only [Value.ownBlock,A2] at hj; omega
  ·have:=(hn.1 e).1;simp at this
theorem Agz (w:World) (b o len cap:Nat) (ss:List (List UInt8)) (hl:ss.length=len) (hpos:0<len) (hc:∀ j u,(ss.map encStr)[j]?=some u->w.cell? ⟨b,o+j,none⟩=some u) (hbig:len<=1000000):Calls prog 48 #[.slice (some ⟨b,o,none⟩) len cap,.slice none 0 0] w fun e w' =>
  ∃ g cap,e=.returned (.slice (some ⟨g,0,none⟩) (Lib.compact (ss.mergeSort fun x y=>decide (x<=y))).length cap) /\
  w'.ownsRow w.heap.size 9 1 (.slice (some ⟨g,0,none⟩) (Lib.compact (ss.mergeSort fun x y=>decide (x<=y))).length cap) (Lib.compact (ss.mergeSort fun x y=>decide (x<=y))).length ((Lib.compact (ss.mergeSort fun x y=>decide (x<=y))).map encStr)/\Below w.heap.size w w':=by
 have HC:=Cm hc;have HL:=Cm hl;clear hc hl;go_enter func48,ntmps48;go_wp2_with (at_builtin; refine Ali HL.out HC.out hbig rfl rfl rfl rfl ?_; intro v1 w1 hown hbel hnn; obtain ⟨g,cap1,rfl,hbg,hgl,hncap,hcm,-,hH⟩:=Lib.holds_of_ownsRow hown hnn; have HO:=Cm hown; have HB:=Cm hbel; have HG:=Cm hbg; have HS:=Cm (show Calls prog 73 #[.slice (some ⟨g,0,none⟩) len cap1] w1 fun e w'=>e=.returned (.tuple #[])/\∃ n os,w'=grow (putRow encStr (Sort.ahead w1 n) g 0 (ss.mergeSort fun x y=>decide (x<=y)).toArray) os from by have:=Tryz.slices_Sort_string g 0 cap1 ss w1 hH hgl (by rw [HL.out]; omega); rw [HL.out] at this; exact this); have HH:=Cm hH; have HGL:=Cm hgl; clear hown hbel hnn hbg hgl hH);have HC2:=Cm (show ∀ nn os,Calls prog 74 #[.slice (some ⟨g,0,none⟩) len cap1] (grow (putRow encStr (Sort.ahead w1 nn) g 0 (ss.mergeSort fun x y=>decide (x<=y)).toArray) os) fun e w'=>e=.returned (.slice (some ⟨g,0,none⟩) (Lib.compact (ss.mergeSort fun x y=>decide (x<=y))).length cap1)/\∃ q,w'=putRow encStr (Sort.ahead (grow (putRow encStr (Sort.ahead w1 nn) g 0 (ss.mergeSort fun x y=>decide (x<=y)).toArray) os) q) g 0 (Lib.compact (ss.mergeSort fun x y=>decide (x<=y))++Ci (len - (Lib.compact (ss.mergeSort fun x y=>decide (x<=y))).length) []).toArray from by
  intro nn os;have hl2:(ss.mergeSort fun x y=>decide (x<=y)).length=len:=by rw [List.length_mergeSort]; exact HL.out
  have hH2:Holds encStr (grow (putRow encStr (Sort.ahead w1 nn) g 0 (ss.mergeSort fun x y=>decide (x<=y)).toArray) os) g 0 (ss.mergeSort fun x y=>decide (x<=y)).toArray :=
   holds_grow encStr _ os g 0 _ (by simpa [putRow,mapBlock,Sort.ahead] using HGL.out) (holds_putRow encStr _ g 0 _ _ (holds_ahead encStr w1 nn g 0 _ HH.out) (by simp))
  have:=Tryz.slices_Compact_string g 0 cap1 (ss.mergeSort fun x y=>decide (x<=y)) _ hH2 aA aA;rw [hl2] at this;exact this)
 go_wp2_with (go_at_call 73; refine HS.out.mono ?_; rintro e w2 ⟨rfl,nn,os,rfl⟩);go_wp2_with (go_at_call 74; refine (HC2.out nn os).mono ?_; rintro e w3 ⟨rfl,q,rfl⟩);go_ret;exact Alj HO.out HB.out HG.out HL.out
theorem Wm {z:List (List UInt8)} (hz:z.Pairwise (·<=·)):(Lib.compact z).Pairwise (· < ·)/\∀ x,x ∈ Lib.compact z↔x ∈ z:=by
 have mono:∀ i j,i<=j->j<z.length->z.toArray[i]!<=z.toArray[j]!:=by
  intro i j hij hj;rw [getElem!_pos z.toArray i aB,getElem!_pos z.toArray j aW];rcases F3 i j with h|h
  ·exact List.pairwise_iff_getElem.1 hz i j aA hj h
  ·have:i=j:=aA
   subst this;exact List.le_refl _
 have key:∀ m,m<=z.length->(Lib.compactUpTo z.toArray m).Pairwise (· < ·)/\∀ x,x ∈ Lib.compactUpTo z.toArray m↔∃ j,j<m/\z.toArray[j]! = x:=by
  intro m;induction m with
  | zero=>intro _; exact ⟨by simp [Lib.compactUpTo],fun x=>by simp [Lib.compactUpTo]⟩
  | succ m ih =>
   intro hm;obtain ⟨h1,h2⟩:=ih aA;rw [Lib.compactUpTo_succ];cases hk:Lib.keeps z.toArray m with
   | true =>
    rw [if_pos rfl];refine ⟨List.pairwise_append.2 ⟨h1,by simp,fun x hx y hy=>?_⟩,fun x=>?_⟩
    ·obtain ⟨j,hj,rfl⟩:=(h2 x).1 hx;have hy:y=z.toArray[m]!:=by simpa using hy
     subst hy;simp only [Lib.keeps,decide_eq_true_eq] at hk;have hne:=hk.resolve_left aA;refine List.not_le.1 fun hle=>hne ?_;exact List.le_antisymm (List.le_trans hle (mono j (m - 1) aA aA)) (mono (m - 1) m aA aA)
    ·rw [C4,h2];constructor
     ·rintro (⟨j,hj,e⟩|h)
      ·exact ⟨j,aA,e⟩
      ·exact ⟨m,aA,(by simpa using h:x=_).symm⟩
     ·rintro ⟨j,hj,e⟩;by_cases hjm:j=m
      ·subst hjm; exact .inr (by simp [e])
      ·exact .inl ⟨j,aA,e⟩
   | false =>
    rw [if_neg (by simp),F4];refine ⟨h1,fun x=>?_⟩;rw [h2];simp only [Lib.keeps,decide_eq_false_iff_not,not_or,Decidable.not_not] at hk;constructor
    ·rintro ⟨j,hj,e⟩; exact ⟨j,aA,e⟩
    ·rintro ⟨j,hj,e⟩;by_cases hjm:j=m
     ·subst hjm; exact ⟨j - 1,aA,by rw [<- hk.2]; exact e⟩
     ·exact ⟨j,aA,e⟩
 obtain ⟨h1,h2⟩:=key z.length (Cc _);refine ⟨h1,fun x=>(h2 x).trans ?_⟩;constructor
 ·rintro ⟨j,hj,rfl⟩;rw [getElem!_pos z.toArray j aW];simp
 ·intro hx;obtain ⟨j,hj,rfl⟩:=List.getElem_of_mem hx;exact ⟨j,hj,by rw [getElem!_pos z.toArray j aW]; simp⟩
theorem Abk (l:List ByteArray):Lib.compact ((l.map nm).mergeSort fun x y=>decide (x<=y))=(uniS l).map nm:=by
 have hz:((l.map nm).mergeSort fun x y=>decide (x<=y)).Pairwise (·<=·):=by
  have:=List.pairwise_mergeSort (le:=fun x y:List UInt8=>decide (x<=y)) (fun a b c h1 h2=>by simp only [decide_eq_true_eq] at *; exact List.le_trans h1 h2) (fun a b=>by simp only [F8,decide_eq_true_eq]; exact List.le_total a b) (l.map nm);exact this.imp fun h=>aJ
 obtain ⟨h1,h2⟩:=Wm hz;obtain ⟨u1,u2,-⟩:=Ju l;generalize Lib.compact ((l.map nm).mergeSort fun x y=>decide (x<=y))=T at h1 h2;have e:T=(T.map fun x=>(⟨x.toArray⟩:ByteArray)).map nm:=by
  rw [iM];conv=>lhs; rw [<- List.map_id T]
  exact fT fun x _=>by simp [nm]
 rw [e];congr 1;refine Aoq ?_ u1 fun x=>?_
 ·unfold Inc;rw [List.pairwise_map];exact h1.imp fun h=>by simpa [nm] using h
 ·rw [u2];have:x ∈ (T.map fun x=>(⟨x.toArray⟩:ByteArray))↔nm x ∈ T:=by
   rw [F9];constructor
   ·rintro ⟨y,hy,rfl⟩; simpa [nm] using hy
   ·intro h; exact ⟨nm x,h,by simp [nm]⟩
  rw [this,h2,List.mem_mergeSort,F9];constructor
  ·rintro ⟨y,hy,h⟩; rw [Aj5 h] at hy; exact hy
  ·intro h; exact ⟨x,h,rfl⟩
theorem Ak7 {w:World} {A:Nat->Nat->Prop} {b sz:Nat} : ∀ {l:List ByteArray} {o j:Nat} {x:ByteArray},Bf w A b sz o (l.map strC)->nth l j=some x->sz=1/\w.cell? ⟨b,o+j,none⟩=some (.string x)
 | y :: l,o,0,x,h,hx=>by
  simp only [nth,A2] at hx;subst hx;simp only [Cp,Bf,strC] at h;obtain ⟨h0,⟨vs,h1,h2⟩,-⟩:=h;match vs,h2 with
  | [v],h2 =>
  simp only [PRs,PR,and_true] at h2;simp only [Lie] at h1;have h0:sz=1:=by simpa using h0.symm
  exact ⟨h0,by rw [M9,h1.1,h2.1]⟩
 | y :: l,o,j+1,x,h,hx=>by
  simp only [nth] at hx;simp only [Cp,Bf] at h;obtain ⟨h0,-,h3⟩:=h;have h0:sz=1:=by simpa [strC] using h0.symm
  subst h0;obtain ⟨-,h4⟩:=Ak7 h3 hx;exact ⟨rfl,by rw [<- h4]; congr 2; omega⟩
theorem Uz {w:World} {A:Nat->Nat->Prop} {b:Nat} (hA:∀ o,¬ A b o):∀ (l:List ByteArray) (o:Nat),(∀ i x,nth l i=some x->w.cell? ⟨b,o+i,none⟩=some (.string x))->Bf w A b 1 o (l.map strC)
 | [],_,_=>Za37
 | x :: l,o,h=>by
  simp only [Cp,Bf];have h1:=h 0 x rfl;refine ⟨rfl,⟨[.string x],⟨h1,hA _,trivial⟩,?_⟩,Uz hA l (o+1) fun i d hd=>?_⟩
  ·simp [PRs,PR,strC,S8]
  ·have:=h (i+1) d hd;rwa [show o+(i+1)=o+1+i from by omega] at this
theorem Ahq {C:Cx} {vs:Array Value} (hs:SR C) (l:List ByteArray) (c:Cap) (hlen:l.length<=1000000) (hc:l=[]->c=.nilc) (hv:VRs C [.frz (l.map strC) c,.frz [] .nilc] vs.toList) :
  Calls prog 48 vs C.w fun e w'=>∃ v C',e=.returned v/\C'.w=w'/\Le C C'/\SR C'/\C'.S=C.S/\C'.tk=C.tk/\C'.n=C.n/\VR C' (Ar (uniS l)) v:=by
 obtain ⟨vl⟩:=vs;match vl,hv with
 | [x,y],hv =>
 simp only [VRs,VR,and_true] at hv;obtain ⟨⟨a,len,cap,rfl,h1,h2,h3,h4⟩,⟨a2,len2,cap2,rfl,g1,g2,g3,-⟩⟩:=hv;have g1:len2=0:=by simpa using g1.symm
 subst g1;obtain ⟨rfl,g3⟩:=(g3:a2=none/\cap2=0);subst g3;by_cases hl:l=[]
 ·subst hl;obtain rfl:=hc rfl;have h1:len=0:=by simpa using h1.symm
  subst h1;obtain ⟨rfl,h3⟩:=(h3:a=none/\cap=0);subst h3;refine (Agy C.w).mono ?_;rintro e w' ⟨a,rfl,hb⟩;refine ⟨_,C.at w',rfl,rfl,Le.of_below hb,SR.of_below hs hb,rfl,rfl,rfl,?_⟩;simp only [Ar,uniS,List.foldl_nil,Fi,VR];exact ⟨a,0,0,rfl,rfl,Cc _,trivial,.inl trivial⟩
 ·have hpos:0<l.length:=Lo.2 hl;obtain ⟨b,o,sz,rfl,hr⟩:=h4.resolve_left bP;have h1:l.length=len:=aR
  subst h1;have hcell:∀ j u,((l.map nm).map encStr)[j]?=some u->C.w.cell? ⟨b,o+j,none⟩=some u:=by
   intro j u hj;rw [iM,Fw,Ca] at hj;obtain ⟨x,hx,rfl⟩:=hj;rw [(Ak7 hr (by rw [Ae]; exact hx)).2];simp [nm]
  refine (Agz C.w b o l.length cap (l.map nm) (by simp) hpos hcell hlen).mono ?_;rintro e w' ⟨g,cap',rfl,hown,hb⟩;rw [Abk] at hown ⊢;rcases hown.2 with ⟨h0,-⟩|⟨g',cap2,cur,hv,hbase,hg,k1,k2,k3,k4⟩
  ·cases h0
  cases hv;refine ⟨_,C.at w',rfl,rfl,Le.of_below hb,SR.of_below hs hb,rfl,rfl,rfl,?_⟩;simp only [Ar,VR];refine ⟨_,_,_,rfl,by simp,by simpa using k1,trivial,.inr ⟨g,0,1,rfl,Uz (fun o ha=>?_) _ _ fun i x hx=>?_⟩⟩
  ·rcases ha with ha|ha
   ·have:=hs.avlt g o ha; omega
   ·have:=Aed hs (show C.Mut g o from ha); omega
  ·have hx':=hx;rw [Ae] at hx';have hi:i<(uniS l).length:=Bh hx;show w'.cell? _=_;have hq:cur.toList[i]?=some (.string x):=by
    have:(cur.toList.take (((uniS l).map nm).length*1))[i]?=some (.string x):=by
     rw [k4,iM,Fw,hx'];simp [nm]
    rw [Iu] at this;split at this
    ·exact this
    ·simp at this
   simp only [Fz,hg,Fg];simpa using hq
end
section
def inB (n:Int):Bool:=decide (-1000000000000<=n/\n<=1000000000000)
theorem J5 {n:Int} : inB n=true↔-1000000000000<=n/\n<=1000000000000:=by simp [inB]
theorem Aji {n:Int} : inB n=false↔¬ (-1000000000000<=n/\n<=1000000000000):=by simp [inB]
def chk (ok:Bool) (n:Int):Int × Bool:=if ok && inB n then (n,true) else (0,false)
def addS (a b:Int):Int × Bool:=chk (inB a && inB b) (a+b)
def mulS (a b:Int):Int × Bool:=chk (inB a && inB b) (a*b)
def absS (n:Int):Int:=if n=-9223372036854775808 then 1000000000000 else if 0<=n then n else -n
theorem Apj {n:Int} (h:inB n=true):absS n=n.natAbs:=by
 rw [J5] at h; unfold absS; split
 ·omega
 ·split <;> omega
theorem Ane (a b:Int) (h:a≠0) :
  (decide (1000000000000 / (a.natAbs:Int)<(b.natAbs:Int))=false/\-1000000000000<=a*b/\a*b<=1000000000000/\inB (a*b)=true) \/
  (decide (1000000000000 / (a.natAbs:Int)<(b.natAbs:Int))=true/\inB (a*b)=false):=by
 have hp:0<(a.natAbs:Int):=aA
 have hab:((a*b).natAbs:Int)=(b.natAbs:Int)*a.natAbs:=by rw [Ie]; push_cast; rw [F6]
 by_cases hc:1000000000000 / (a.natAbs:Int)<(b.natAbs:Int)
 ·right;refine ⟨by simpa using hc,?_⟩;rw [Int.ediv_lt_iff_lt_mul hp] at hc;rw [Aji];omega
 ·left;have hd:=hc;rw [Int.ediv_lt_iff_lt_mul hp] at hc;rw [J5];refine ⟨cF,?_⟩;omega
theorem drop_nil {α:Type} {l:List α} {n:Nat} (h:l.length<=n):l.drop n=[]:=Ft h
end
section
open Go
def numC (x:Int):AV:=.prim (.int .i64 x)
theorem Aj6 {l:List Int} {i:Nat} {x:Int} (h:nth l i=some x):nth ((l.map numC).drop i) 0=some (.prim (.int .i64 x)):=by
 have:nth (l.map numC) i=some (numC x):=dB
 exact Eb this
theorem Aef {l:List Int} {i:Nat} {x v:Int} (h:nth l i=some x):over (l.map numC) i [.prim (.int .i64 v)]=some ((l.set i v).map numC):=by
 have h1:nth (l.map numC) i=some (numC x):=dB
 rw [Xm h1];have:(.prim (.int .i64 v):AV)=numC v:=rfl;rw [this,Pp,Tt]
theorem Agq {l:List Int} {n:Nat} (h:n<=l.length):Jq 1 n (l.map numC)=some ((l.take n).map digC):=Vv h
theorem Agr (l:List Int):P8 (some (l.map digC))=.frz (l.map digC) .unk:=by
 unfold P8;simp only;rw [if_pos (by simp [digC,pure1,w1,S8])];congr 1;simp [w1,digC]
theorem Jt {l:List Int} {n:Nat} (hn:n<=l.length) (hz:∀ j,n<=j->∀ x,nth l j=some x->x=0) (he:n=0\/∃ x,nth l (n - 1)=some x/\x≠0):Dx l=l.take n:=by
 rw [Pa n l hn hz];rcases he with rfl|⟨x,hx,h0⟩
 ·simp [Dx]
 ·by_cases h1:n=0
  ·subst h1; simp [Dx]
  ·refine X6 _ (n - 1) x ?_ aB h0;rw [Ae,Io aA,<- Ae]; exact hx
theorem Aek {n:Nat} (h:n≠0) (hl:n<=1000000):Cf.wrap ((n:Int) - 1)=((n - 1:Nat):Int):=by
 rw [Ab aC]; omega
theorem Abt {l:List Int} {n:Nat} {x:Int} (hz:∀ j,n<=j->∀ x,nth l j=some x->x=0) (hx:nth l (n - 1)=some x) (qd:x=0):∀ j,n - 1<=j->∀ y,nth l j=some y->y=0:=fun j hj y hy=>by
 by_cases e:j=n - 1
 ·rw [e,hx] at hy; simp only [A2] at hy; omega
 ·exact hz j aA y hy
theorem W5 (l:List Int):∀ j,l.length<=j->∀ x,nth l j=some x->x=0:=fun j hj x hx=>by have:=Bh hx; omega
theorem Aos:∀ {l r:List Int} {i:Nat} {x y:Int},l.length=r.length->okD l->okD r->nth l i=some x->nth r i=some y->x<y->(∀ j,i<j->nth l j=nth r j)->val l<val r
 | d :: l,e :: r,0,x,y,hl,h1,h2,hx,hy,ii,he=>by
  simp only [nth,A2] at hx hy; subst hx hy;have:l=r:=by
   apply List.ext_getElem?;intro j;have:=he (j+1) aA;simp only [nth,Ae] at this; exact this
  subst this; simp only [val]; omega
 | d :: l,e :: r,i+1,x,y,hl,h1,h2,hx,hy,ii,he=>by
  have ih:=Aos (l:=l) (r:=r) (i:=i) bP (fun z hz=>h1 z (by simp [hz])) (fun z hz=>h2 z (by simp [hz])) hx hy ii fun j hj=>he (j+1) aA;have g1:=h1 d (by simp);have g2:=h2 e (by simp);simp only [val]; omega
 | [],_,_,_,_,_,_,_,hx,_,_,_=>by simp [nth] at hx
 | _ :: _,[],_,_,_,_,_,_,_,hy,_,_=>by simp [nth] at hy
def cmpN (a b:Nat):Int:=if a<b then -1 else if b<a then 1 else 0
theorem Rg {a b:Nat} (h:(dig a).length<(dig b).length):a<b:=by
 have h1:=Bt (n:=a) (k:=(dig a).length);have h2:=Bt (n:=b) (k:=(dig a).length);have h3:¬ (dig b).length<=(dig a).length:=aA
 rw [h2] at h3;have:=h1.1 (Cc _);omega
theorem Aop {a b i:Nat} {x y:Int} (hl:(dig a).length=(dig b).length) (hx:nth (dig a) i=some x) (hy:nth (dig b) i=some y) (h:x<y) (he:∀ j,i<j->nth (dig a) j=nth (dig b) j):a<b:=by
 have:=Aos hl (Da a) (Da b) hx hy h he;rw [Dm,Dm] at this; omega
theorem Amp {a b:Nat} (he:∀ j,nth (dig a) j=nth (dig b) j):a=b:=by
 refine Aps (List.ext_getElem? fun j=>?_);rw [<- Ae,<- Ae]; exact he j
theorem X5 {n:Nat} (hl:n<=1000000):Cf.wrap ((n:Int) - 1)=(n:Int) - 1:=Ab aC
theorem Gg {l:List Int} {i j:Nat} {x v:Int} (h:nth (l.set i v) j=some x):(j=i/\x=v)\/(j≠i/\nth l j=some x):=by
 rw [<- Tt] at h;by_cases e:i=j
 ·subst e; exact .inl ⟨rfl,D8 h⟩
 ·rw [Ad e] at h; exact .inr ⟨fun h=>e h.symm,h⟩
theorem Aaj {l:List Int} {i:Nat} {v:Int} (h:i<l.length):nth (l.set i v) i=some v:=by
 rw [Ae,List.getElem?_set_self h]
theorem Aak {l:List Int} (h:∀ j x,nth l j=some x->0<=x/\x<10000):okD l:=fun d hd=>by
 obtain ⟨j,hj⟩:=List.mem_iff_getElem?.1 hd;exact h j d (by rw [Ae]; exact hj)
theorem Gb {l:List Int} (h:okD l) {j:Nat} {x:Int} (hx:nth l j=some x):0<=x/\x<10000:=h x Za1a
def padL (l:List Int) (n:Nat):List Int:=l++Ci (n - l.length) 0
theorem Aeh {l:List Int} {n:Nat} (h:l.length<=n):(padL l n).length=n:=by simp [padL]; omega
theorem Aei (l:List Int) (n:Nat):val (padL l n)=val l:=by rw [padL,Gn,Hl]; omega
theorem Akd {l:List Int} {n j:Nat} {x:Int} (h:nth (padL l n) j=some x):nth l j=some x\/(l.length<=j/\x=0):=by
 rw [Ae,padL] at h;by_cases hj:j<l.length
 ·rw [Ct hj] at h; left; rw [Ae]; exact h
 ·rw [C6 aA] at h;right;refine ⟨aA,?_⟩;have:=Ik h;exact (Im.1 this).2
theorem Aa6 (n:Nat):(Ci n [(.prim (.int .i64 0):AV)]).flatten=(Ci n (0:Int)).map numC:=by
 rw [Amz,iT]; rfl
def Ate (n:Nat):List AV:=(Ci n (0:Int)).map numC
theorem Aso {P:Program} {t:TypeId} {n:Nat} (hz:(A7 P t).bind (Ax P)=some [.prim (.int .i64 0)]) (hs:(A7 P t).bind (szOf P)=some 1) (hb:(A7 P t).bind (Je P)=some 8) (hn:n<=1048576) :
  mkA P t (.prim (.int .i64 (n:Int))) (.prim (.int .i64 (n:Int)))=some (n,1,Ate n):=by
 unfold mkA;rw [hz,hs,hb,intN_cast];simp only [mkB];rw [if_pos ⟨Cc _,hn,aA,rfl⟩,Aa6]; rfl
theorem Jc:∀ l:List Int,Dx l=l.take (Dx l).length
 | []=>rfl
 | d :: l=>by
  rw [Dx];split
  ·rfl
  ·simp only [Ck,F1];rw [<- Jc l]
theorem Xo (n:Nat):(0:Int)<10000 ^ n:=Int.pow_pos aA
structure Plus1 (a b la i:Nat) (out:List Int):Prop where
 len:out.length=la+1
 val:val out+10000 ^ i*val ((dig b).drop i)=(a+b:Nat)
 ok:∀ j x,nth out j=some x->0<=x/\(j<i->x<=19998)/\(i<=j->x<10000)/\(j=la->x=0)
theorem Plus1.start {a b:Nat} : Plus1 a b (dig a).length 0 (padL (dig a) ((dig a).length+1)):=by
 refine ⟨Aeh aA,?_,fun j x hx=>?_⟩
 ·rw [Aei,Dm,F7,Dm]; simp
 ·rcases Akd hx with h|⟨h,rfl⟩
  ·have:=Gb (Da a) h;have hl:=Bh h;exact ⟨this.1,aA,fun _=>this.2,fun e=>aA⟩
  ·exact ⟨aA,aA,aA,fun _=>rfl⟩
theorem Plus1.step {a b la i:Nat} {out:List Int} {x d:Int} (h:Plus1 a b la i out) (hb:i<la) (hx:nth out i=some x) (hd:nth (dig b) i=some d):Plus1 a b la (i+1) (out.set i (x+d)):=by
 have u5:=Gb (Da b) hd;refine ⟨cR,?_,fun j y hy=>?_⟩
 ·have hv:=h.val;rw [Ay hd,Go.Proofs.YtcandeobhlfkbaaGreat.val] at hv;rw [Kc hx,<- hv,Oi,Ow];have e1:x+d - x=d:=aA
  rw [e1,F6 d,Ii]; omega
 ·rcases Gg hy with ⟨rfl,rfl⟩|⟨hne,hy⟩
  ·have:=h.ok _ x hx;exact ⟨aA,aA,aA,aA⟩
  ·have:=h.ok j y hy;exact ⟨this.1,fun hj=>this.2.1 aA,fun hj=>this.2.2.1 aA,this.2.2.2⟩
structure Plus2 (v la i:Nat) (out:List Int):Prop where
 len:out.length=la+1
 val:val out=v
 ok:∀ j x,nth out j=some x->0<=x/\(j<i->x<10000)/\(j=i->x<=19999)/\(i<j->x<=19998)/\(j=la->x<=1/\(i<la->x=0))
theorem Plus2.start {a b la:Nat} {out:List Int} (h:Plus1 a b la (dig b).length out):Plus2 (a+b) la 0 out:=by
 refine ⟨h.len,?_,fun j x hx=>?_⟩
 ·have:=h.val;rw [Fo,Go.Proofs.YtcandeobhlfkbaaGreat.val] at this; omega
 ·have:=h.ok j x hx;refine ⟨this.1,aA,fun _=>?_,fun _=>?_,fun e=>⟨by have:=this.2.2.2 e; omega,fun _=>this.2.2.2 e⟩⟩
  ·rcases F3 j (dig b).length with hj|hj
   ·have:=this.2.1 hj; omega
   ·have:=this.2.2.1 hj; omega
  ·rcases F3 j (dig b).length with hj|hj
   ·exact this.2.1 hj
   ·have:=this.2.2.1 hj; omega
theorem Plus2.small {v la i:Nat} {out:List Int} {x:Int} (h:Plus2 v la i out) (hi:i<la) (hx:nth out i=some x) (h1:x<10000):Plus2 v la (i+1) out:=by
 refine ⟨h.len,h.val,fun j y hy=>?_⟩;have:=h.ok j y hy;refine ⟨this.1,fun hj=>?_,fun hj=>by have:=this.2.2.2.1 aA; omega,fun hj=>this.2.2.2.1 aA,fun e=>⟨(this.2.2.2.2 e).1,fun _=>(this.2.2.2.2 e).2 hi⟩⟩;exact Ya1g
theorem Plus2.big {v la i:Nat} {out:List Int} {x y:Int} (h:Plus2 v la i out) (hi:i<la) (hx:nth out i=some x) (h1:10000<=x) (hy:nth (out.set i (x - 10000)) (i+1)=some y):Plus2 v la (i+1) ((out.set i (x - 10000)).set (i+1) (y+1)):=by
 refine ⟨Za2e,?_,fun j z hz=>?_⟩
 ·rw [Kc hy,Kc hx,<- h.val,Oi];have e1:x - 10000 - x=-10000:=aA
  have e2:y+1 - y=1:=aA
  rw [e1,e2,Int.one_mul,F6 (10000 ^ i) 10000,iD]; omega
 ·have hyo:nth out (i+1)=some y:=by
   rcases Gg hy with ⟨e,-⟩|⟨-,hy⟩
   ·omega
   ·exact hy
  have hk:=h.ok i x hx;have hky:=h.ok (i+1) y hyo;rcases Gg hz with ⟨rfl,rfl⟩|⟨hne,hz⟩
  ·refine ⟨aA,aA,fun _=>by have:=hky.2.2.2.1 aA; omega,aA,fun e=>?_⟩;have:=(hky.2.2.2.2 e).2 hi;exact ⟨aA,aA⟩
  ·rcases Gg hz with ⟨rfl,rfl⟩|⟨u9,hz⟩
   ·exact ⟨aA,fun _=>aA,aA,aA,aA⟩
   ·have:=h.ok j z hz;exact ⟨this.1,fun hj=>this.2.1 aA,fun hj=>aA,fun hj=>this.2.2.2.1 aA,fun e=>⟨(this.2.2.2.2 e).1,fun _=>(this.2.2.2.2 e).2 hi⟩⟩
theorem Plus2.done {v la:Nat} {out:List Int} (h:Plus2 v la la out):Dx out=dig v:=by
 have hk:okD out:=Aak fun j x hx=>by
  have:=h.ok j x hx;have hl:=Bh hx;rw [h.len] at hl;refine ⟨this.1,?_⟩;rcases F3 j la with hj|hj
  ·exact this.2.1 hj
  ·have:=(this.2.2.2.2 aA).1; omega
 rw [En hk,h.val]; congr 1
theorem Alm {l:List Int} (h:okD l):val l<10000 ^ l.length:=by
 induction l with
 | nil=>simp [val]
 | cons d l ih =>
  have h1:=h d (by simp);have h2:=ih fun x hx=>h x bJ;simp only [val,Ck,Oi]; omega
theorem Aq3 {l:List Int} {i:Nat} {x:Int} (hl:l.length=i+1) (hx:nth l i=some x) (hk:∀ j y,j<i->nth l j=some y->0<=y/\y<10000) (h0:x<0):val l<0:=by
 have e:l=l.take i++[x]:=by
  apply List.ext_getElem?;intro j;rcases Oh j i with hj|hj|hj
  ·rw [Ct aB,Io hj]
  ·subst hj;have hlj:(l.take j).length=j:=aB
   rw [C6 aA,hlj,I4,<- Ae,hx]; rfl
  ·rw [C9 aA,C9 aB]
 have y6:okD (l.take i):=Aak fun j y hy=>by
  have hj:=Bh hy;have zf:j<i:=by rw [Ix] at hj; omega
  refine hk j y zf ?_;rw [Ae] at hy ⊢;rw [Io zf] at hy; exact hy
 have h1:=Alm y6;have hlen:(l.take i).length=i:=aB
 rw [hlen] at h1;rw [e,Gn,hlen];have hp:=Xo i;have:(10000:Int) ^ i*val [x]<=10000 ^ i*(-1):=Int.mul_le_mul_of_nonneg_left (by simp [val]; omega) aA;omega
structure Ux (a b la i:Nat) (out:List Int):Prop where
 len:out.length=la
 eqv:val out - 10000 ^ i*val ((dig b).drop i)=(a:Int) - b
 ok:∀ j x,nth out j=some x->-9999<=x/\x<=9999/\(i<=j->0<=x)
theorem Ux.start {a b:Nat} : Ux a b (dig a).length 0 (padL (dig a) (dig a).length):=by
 refine ⟨Aeh aA,?_,fun j x hx=>?_⟩
 ·rw [Aei,Dm,F7,Dm]; simp
 ·rcases Akd hx with h|⟨h,rfl⟩
  ·have:=Gb (Da a) h; exact ⟨aA,aA,fun _=>this.1⟩
  ·exact ⟨aA,aA,fun _=>aA⟩
theorem Ux.step {a b la i:Nat} {out:List Int} {x d:Int} (h:Ux a b la i out) (hx:nth out i=some x) (hd:nth (dig b) i=some d):Ux a b la (i+1) (out.set i (x - d)):=by
 have u5:=Gb (Da b) hd;refine ⟨cR,?_,fun j y hy=>?_⟩
 ·have hv:=h.eqv;rw [Ay hd,val] at hv;rw [Kc hx,<- hv,Oi,Ow];have e1:x - d - x=-d:=aA
  rw [e1,iD,F6 d,Ii]; omega
 ·rcases Gg hy with ⟨rfl,rfl⟩|⟨hne,hy⟩
  ·have:=h.ok _ x hx;exact ⟨by have:=this.2.2 (Cc _); omega,aA,aA⟩
  ·have:=h.ok j y hy;exact ⟨this.1,this.2.1,fun hj=>this.2.2 aA⟩
structure Ke (v:Nat) (la i:Nat) (out:List Int):Prop where
 len:out.length=la
 eqv:val out=v
 ok:∀ j x,nth out j=some x->x<=9999/\(j<i->0<=x)/\(j=i->-10000<=x)/\(i<j->-9999<=x)
theorem Ke.start {a b la:Nat} {out:List Int} (h:Ux a b la (dig b).length out) (hab:b<=a):Ke (a - b) la 0 out:=by
 refine ⟨h.len,?_,fun j x hx=>?_⟩
 ·have:=h.eqv;rw [Fo,val] at this; omega
 ·have:=h.ok j x hx; exact ⟨this.2.1,aA,aA,aA⟩
theorem Ke.small {v la i:Nat} {out:List Int} {x:Int} (h:Ke v la i out) (hx:nth out i=some x) (h1:0<=x):Ke v la (i+1) out:=by
 refine ⟨h.len,h.eqv,fun j y hy=>?_⟩;have:=h.ok j y hy;refine ⟨this.1,fun hj=>?_,fun hj=>by have:=this.2.2.2 aA; omega,fun hj=>this.2.2.2 aA⟩;exact Ya1g
theorem Ke.room {v la i:Nat} {out:List Int} {x:Int} (h:Ke v la i out) (hx:nth out i=some x) (h1:x<0):i+1<la:=by
 have hi:=Bh hx;have hl:=h.len;rcases F3 (i+1) la with h2|h2
 ·exact h2
 ·exfalso;have:=Aq3 (l:=out) (i:=i) aA hx (fun j y hj hy=>by have:=h.ok j y hy; exact ⟨this.2.1 hj,aA⟩) h1;have:=h.eqv; omega
theorem Ke.neg {v la i:Nat} {out:List Int} {x y:Int} (h:Ke v la i out) (hx:nth out i=some x) (h1:x<0) (hy:nth (out.set i (x+10000)) (i+1)=some y):Ke v la (i+1) ((out.set i (x+10000)).set (i+1) (y - 1)):=by
 have hyo:nth out (i+1)=some y:=by
  rcases Gg hy with ⟨e,-⟩|⟨-,hy⟩
  ·omega
  ·exact hy
 have hk:=h.ok i x hx;have hky:=h.ok (i+1) y hyo;refine ⟨Za2e,?_,fun j z hz=>?_⟩
 ·rw [Kc hy,Kc hx,<- h.eqv,Oi];have e1:x+10000 - x=10000:=aA
  have e2:y - 1 - y=-1:=aA
  rw [e1,e2,F6 (10000 ^ i) 10000]; omega
 ·rcases Gg hz with ⟨rfl,rfl⟩|⟨hne,hz⟩
  ·exact ⟨aA,aA,fun _=>by have:=hky.2.2.2 aA; omega,aA⟩
  ·rcases Gg hz with ⟨rfl,rfl⟩|⟨u9,hz⟩
   ·exact ⟨aA,fun _=>by have:=hk.2.2.1 rfl; omega,aA,aA⟩
   ·have:=h.ok j z hz;exact ⟨this.1,fun hj=>this.2.1 aA,fun hj=>aA,fun hj=>this.2.2.2 aA⟩
theorem Ke.done {v la:Nat} {out:List Int} (h:Ke v la la out):Dx out=dig v:=by
 have hk:okD out:=Aak fun j x hx=>by
  have:=h.ok j x hx;have hl:=Bh hx;rw [h.len] at hl;exact ⟨this.2.1 hl,aA⟩
 rw [En hk,h.eqv]; congr 1
theorem Qx (l:List Int) (i:Nat):val (l.drop i)=(nth l i).getD 0+10000*val (l.drop (i+1)):=by
 by_cases h:i<l.length
 ·obtain ⟨x,hx⟩:=Af h;rw [Ay hx,hx]; rfl
 ·rw [Ft aA,Ft aA,Ae,C9 aA]; rfl
theorem Qk (a i:Nat):0<=(nth (dig a) i).getD 0/\(nth (dig a) i).getD 0<10000:=by
 cases h:nth (dig a) i with
 | none=>simp
 | some x=>exact Gb (Da a) h
theorem Qr {l:List Int} {x:Int} (h:okD l) (h0:0<=x) (h1:x<10000):okD (l++[x]):=fun d hd=>by
 rcases C4.1 hd with hd|hd
 ·exact h d hd
 ·simp at hd; subst hd; exact ⟨h0,h1⟩
theorem Qy (l:List Int) (x:Int):val (l++[x])=val l+10000 ^ l.length*x:=by rw [Gn]; simp [val]
theorem L3 (i:Nat) (x r:Int):(10000:Int) ^ i*x+10000 ^ (i+1)*r=10000 ^ i*(x+10000*r):=by rw [Oi,Ow,Ii]
structure Sum1 (a b i:Nat) (c:Int) (out:List Int):Prop where
 len:out.length=i
 ok:okD out
 c0:0<=c/\c<=1
 eqv:val out+10000 ^ i*(c+val ((dig a).drop i)+val ((dig b).drop i))=(a+b:Nat)
theorem Sum1.step {a b i:Nat} {c n:Int} {out:List Int} (h:Sum1 a b i c out) (hn:n=(nth (dig a) i).getD 0+(nth (dig b) i).getD 0+c):Sum1 a b (i+1) (n.tdiv 10000) (out++[n.tmod 10000])/\0<=n/\n<=19999/\0<=n.tmod 10000/\n.tmod 10000<10000:=by
 have h1:=Qk a i;have h2:=Qk b i;have h3:=h.c0;have e1:n.tdiv 10000=n / 10000:=Fp aA;have e2:n.tmod 10000=n % 10000:=Iq aA;refine ⟨⟨dD,Qr h.ok aA aA,aA,?_⟩,aA,aA,aA,aA⟩;have hv:=h.eqv;rw [Qx (dig a) i,Qx (dig b) i] at hv;have:n.tmod 10000+10000*(n.tdiv 10000+val ((dig a).drop (i+1))+val ((dig b).drop (i+1)))=c+((nth (dig a) i).getD 0+10000*val ((dig a).drop (i+1)))+((nth (dig b) i).getD 0+10000*val ((dig b).drop (i+1))):=aA
 exact Ya2o
theorem Sum1.done {a b i:Nat} {c:Int} {out:List Int} (h:Sum1 a b i c out) (h1:(dig a).length<=i) (h2:(dig b).length<=i) (h3:c=0):Dx out=dig (a+b):=by
 have hv:=h.eqv;rw [Ft h1,Ft h2,h3] at hv;simp only [val] at hv;rw [En h.ok];congr 1; omega
structure Dif1 (a b i:Nat) (c:Int) (out:List Int):Prop where
 len:out.length=i
 ok:okD out
 c0:0<=c/\c<=1
 eqv:val out+10000 ^ i*(val ((dig a).drop i) - val ((dig b).drop i) - c)=(a:Int) - b
theorem Dif1.step {a b i:Nat} {c n d:Int} {out:List Int} (h:Dif1 a b i c out) (hd:nth (dig a) i=some d) (hn:n=d - (nth (dig b) i).getD 0 - c):(n<0->Dif1 a b (i+1) 1 (out++[n+10000]))/\(¬ n<0->Dif1 a b (i+1) 0 (out++[n]))/\-10000<=n/\n<10000:=by
 have h1:=Gb (Da a) hd;have h2:=Qk b i;have h3:=h.c0;have hv:=h.eqv;rw [Qx (dig b) i,Ay hd,val] at hv;refine ⟨fun hn0=>⟨dD,Qr h.ok aA aA,aA,?_⟩,fun hn0=>⟨dD,Qr h.ok aA aA,aA,?_⟩,aA,aA⟩
 ·have:n+10000+10000*(val ((dig a).drop (i+1)) - val ((dig b).drop (i+1)) - 1)=d+10000*val ((dig a).drop (i+1)) - ((nth (dig b) i).getD 0+10000*val ((dig b).drop (i+1))) - c:=aA
  exact Ya2o
 ·have:n+10000*(val ((dig a).drop (i+1)) - val ((dig b).drop (i+1)) - 0)=d+10000*val ((dig a).drop (i+1)) - ((nth (dig b) i).getD 0+10000*val ((dig b).drop (i+1))) - c:=aA
  exact Ya2o
theorem Am8 {a b:Nat} (h:b<=a):(dig b).length<=(dig a).length:=by
 rw [Bt];have:=(Bt (n:=a) (k:=(dig a).length)).1 (Cc _);omega
theorem Dif1.done {a b:Nat} {c:Int} {out:List Int} (h:Dif1 a b (dig a).length c out) (hab:b<=a):Dx out=dig (a - b):=by
 have hv:=h.eqv;have h3:=h.c0;rw [Fo,Ft (Am8 hab)] at hv;simp only [val] at hv;have hlt:=Alm h.ok;rw [h.len] at hlt;have hp:=Xo (dig a).length;have hc:c=0:=by
  rcases Int.lt_or_le c 1 with h1|h1
  ·omega
  ·have:c=1:=aA
   subst this;have:(10000:Int) ^ (dig a).length*(0 - 0 - 1)=-(10000 ^ (dig a).length):=aA
   omega
 subst hc;rw [En h.ok];congr 1;have:(10000:Int) ^ (dig a).length*(0 - 0 - 0)=0:=by simp
 omega
theorem Xj {l:List Int} {i:Nat} {x:Int} (h:okD l) (h0:0<=x) (h1:x<10000):okD (l.set i x):=fun d hd=>by
 rcases List.mem_or_eq_of_mem_set hd with hd|rfl
 ·exact h d hd
 ·exact ⟨h0,h1⟩
structure Mul1 (X Y i:Nat) (out:List Int):Prop where
 len:out.length=(dig X).length+(dig Y).length
 ok:okD out
 zero:∀ j x,i+(dig Y).length<=j->nth out j=some x->x=0
 eqv:val out+10000 ^ i*(val ((dig X).drop i)*Y)=X*Y
theorem Mul1.start (X Y:Nat):Mul1 X Y 0 (Ci ((dig X).length+(dig Y).length) 0):=by
 have hz:∀ (n j:Nat) (x:Int),nth (Ci n (0:Int)) j=some x->x=0:=fun n j x h=>by
  exact Ya3b
 refine ⟨by simp,Aak fun j x hx=>by rw [hz _ _ _ hx]; omega,fun j x _ hx=>hz _ _ _ hx,?_⟩;rw [Hl,F7,Dm]; simp
structure Mul2 (X Y i k:Nat) (v d c:Int) (out:List Int):Prop where
 len:out.length=(dig X).length+(dig Y).length
 ok:okD out
 zero:∀ j x,i+(dig Y).length<=j->(k<=(dig Y).length\/i+(dig Y).length<j)->nth out j=some x->x=0
 c0:0<=c/\c<10000
 eqv:val out+10000 ^ (i+k)*(c+d*val ((dig Y).drop k))=v
theorem Mul2.start {X Y i:Nat} {d:Int} {out:List Int} (h:Mul1 X Y i out):Mul2 X Y i 0 (val out+10000 ^ i*(d*Y)) d 0 out :=
 ⟨h.len,h.ok,fun j x hj _ hx=>h.zero j x hj hx,aA,by rw [F7,Dm]; simp⟩
theorem Mul2.step {X Y i k:Nat} {v d c x n:Int} {out:List Int} (h:Mul2 X Y i k v d c out) (hk:k<=(dig Y).length) (hd:0<=d/\d<10000) (hx:nth out (i+k)=some x) (hn:n=c+x+d*(nth (dig Y) k).getD 0) :
  Mul2 X Y i (k+1) v d (n.tdiv 10000) (out.set (i+k) (n.tmod 10000))/\0<=n/\n<=99999999/\n.tdiv 10000=n / 10000:=by
 have h1:=Qk Y k;have h2:=Gb h.ok hx;have h3:=h.c0;have s8:0<=d*(nth (dig Y) k).getD 0:=iX hd.1 h1.1;have hp1:d*(nth (dig Y) k).getD 0<=9999*9999:=Int.mul_le_mul aA aA h1.1 aA;have e1:n.tdiv 10000=n / 10000:=Fp aA;have e2:n.tmod 10000=n % 10000:=Iq aA;refine ⟨⟨cR,Xj h.ok aA aA,fun j y hj hjk hy=>?_,aA,?_⟩,aA,aA,e1⟩
 ·rcases Gg hy with ⟨rfl,rfl⟩|⟨hne,hy⟩
  ·have hkk:k=(dig Y).length:=aA
   omega
  ·exact h.zero j y hj aA hy
 ·have hv:=h.eqv;rw [Qx (dig Y) k] at hv;have jj:d*((nth (dig Y) k).getD 0+10000*val ((dig Y).drop (k+1)))=d*(nth (dig Y) k).getD 0+10000*(d*val ((dig Y).drop (k+1))):=by
   rw [Ow,Int.mul_left_comm]
  rw [jj] at hv;rw [Kc hx,gZ,<- gY,F6 (n.tmod 10000 - x),L3,<- hv];congr 2;omega
theorem Mul2.next {X Y i:Nat} {d c x:Int} {o out:List Int} (h:Mul2 X Y i (dig Y).length (val o+10000 ^ i*(d*Y)) d c out) (h0:Mul1 X Y i o) (hd:nth (dig X) i=some d) (hx:nth out (i+(dig Y).length)=some x):x=0/\Mul1 X Y (i+1) (out.set (i+(dig Y).length) (x+c)):=by
 have qd:=h.zero _ x (Cc _) (.inl (Cc _)) hx;subst qd;have h3:=h.c0;refine ⟨rfl,cR,Xj h.ok aA aA,fun j y hj hy=>?_,?_⟩
 ·rcases Gg hy with ⟨rfl,rfl⟩|⟨hne,hy⟩
  ·omega
  ·exact h.zero j y aA (.inl (Cc _)) hy
 ·have hv:=h.eqv;rw [Fo] at hv;simp only [val,Su,gI] at hv;have lq:=h0.eqv;rw [Ay hd,val] at lq;rw [Kc hx,<- lq];have e1:(0:Int)+c - 0=c:=aA
  rw [e1,F6 c,hv,gZ,L3];congr 2;rw [Int.add_mul,Ii]
theorem Mul1.done {X Y:Nat} {out:List Int} (h:Mul1 X Y (dig X).length out):Dx out=dig (X*Y):=by
 have hv:=h.eqv;rw [Fo] at hv;simp only [val,Int.zero_mul,Su,gI] at hv;rw [En h.ok,hv];congr 1
theorem V_bad {p:Bool} {l:List Int} (h:Ei p l=false):V p l=0:=by simp [V,h]
def sg (p:Bool) (n:Nat):Int:=if p=true then -(n:Int) else n
def okZ (z:Int):Bool:=!decide (200<(dig z.natAbs).length)
theorem As6 (p:Bool) (n:Nat):(sg p n).natAbs=n:=by unfold sg; split <;> omega
theorem V_sg (p:Bool) (l:List Int):V p l=sg p (V p l).natAbs:=by
 unfold V;cases h:Ei p l with
 | false=>cases p <;> simp [sg]
 | true =>
  have h3:=Gp (Lm h).2.1;cases p <;> simp [sg] <;> omega
theorem Asp (p q:Bool) (X Y:Nat):sg (p != q) (X*Y)=sg p X*sg q Y:=by
 cases p <;> cases q <;> simp [sg,iD,Int.mul_neg]
theorem Ary {p q:Bool} (h:p≠q) {X Y:Nat} (hl:Y<=X):sg p (X - Y)=sg p X+sg q Y:=by
 cases p <;> cases q <;> simp [sg] at h ⊢ <;> omega
theorem Arz {p q:Bool} (h:p≠q) {X Y:Nat} (hl:X<=Y):sg q (Y - X)=sg p X+sg q Y:=by
 cases p <;> cases q <;> simp [sg] at h ⊢ <;> omega
def cmpZ (x y:Int):Int:=if x<y then -1 else if y<x then 1 else 0
end
section
open Go Tryz
set_option maxRecDepth 100000
section
variable (S:List Ent) (tk:List Nat) (k:Nat)
theorem N2 (a b:Nat) (ha:(dig a).length<=1000000) (hb:(dig b).length<=1000000):cL prog 179 [digA (dig a),digA (dig b)] S tk k=some (.int (cmpN a b),S,tk,k):=by
 refine opP func179 ntmps179 ?_;by_cases hl:(dig a).length=(dig b).length;case neg =>
  have d1:(((dig a).length:Int) != ((dig b).length:Int))=true:=aB
  rcases F3 (dig a).length (dig b).length with h|h
  ·have d2:decide (((dig a).length:Int)<((dig b).length:Int))=true:=aJ
   have:=Rg h
   simp (maxSteps:=10^6)+contextual(disch:=try exact dqd)only[ev0,simprocAttr,Cd,Cb,Ce,results179,digA,d1,d2]
   simp [cmpN,this]
  ·have d2:decide (((dig a).length:Int)<((dig b).length:Int))=false:=aB
   have:=Rg (a:=b) (b:=a) aA
   simp (maxSteps:=10^6)+contextual(disch:=try exact dqd)only[ev0,simprocAttr,Cd,Cb,Ce,results179,digA,d1,d2]
   rw [cmpN,if_neg aA,if_pos this]
 have d1:(((dig a).length:Int) != ((dig b).length:Int))=false:=aB
 have d3:=X5 ha;simp (maxSteps:=10^6)+contextual(disch:=try exact dqd)only[ev0,simprocAttr,Cd,Cb,Ce,results179,digA,d1,d3];refine loop1 (P:=prog) (fun x st=>st.T.length=41/\(x<=(dig a).length)/\(∀ j,x<=j->nth (dig a) j=nth (dig b) j)/\getT st.T 0=digA (dig a)/\getT st.T 1=digA (dig b)/\getT st.T 5=.int ((x:Int) - 1)/\st.S=[]) (fun x=>x) (fun x=>.int (cmpN a b)) ((dig a).length) ?_ ?_;case refine_2=>exact ⟨rfl,Cc _,fun j hj=>by rw [Ae,Ae,C9 hj,C9 aA],rfl,rfl,rfl,rfl⟩
 rintro n ⟨T,S',tk',n'⟩ ⟨hl,hn,he,e0,e1,e5,eS⟩ IH;subst eS;obtain ⟨g,hg,hT⟩:=Au hl;rw [hg] at e0 e1 e5;subst hT;clear hg hl;by_cases h0:n=0
 ·have d2:decide ((n:Int) - 1 >= 0)=false:=aB
  have:=Amp fun j=>he j aA;subst this;simp (maxSteps:=10^6)+contextual(disch:=try exact dqd)only[ev0,simprocAttr,Cd,Cb,Ce,results179,e0,e1,e5,d2,digA];simp [cmpN]
 ·have d2:decide ((n:Int) - 1 >= 0)=true:=aB
  have hi:(n:Int) - 1=((n - 1:Nat):Int):=aA
  obtain ⟨x,hx⟩:=Af (show n - 1<(dig a).length by omega);obtain ⟨y,hy⟩:=Af (show n - 1<(dig b).length by omega);have hx':=Gj hx;have px:=Gj hy;have p7:∀ j,n - 1<j->nth (dig a) j=nth (dig b) j:=fun j hj=>he j aA;have hp:=X5 (n:=n - 1) aA;rw [hi] at e5 d2;by_cases ii:x=y
  ·have d4:(x != y)=false:=by simpa using ii
   simp (maxSteps:=10^6)+contextual(disch:=try exact dqd)only[ev0,simprocAttr,Cd,Cb,Ce,results179,e0,e1,e5,d2,d4,digA,hx',px,hp];exact IH (n - 1) _ aF ⟨rfl,aE,fun j hj=>by by_cases e:j=n - 1; (· rw [e,hx,hy,ii]); exact p7 j aE,aD,aD,aD,aD⟩
  ·have d4:(x != y)=true:=by simpa using ii
   by_cases h1:x<y
   ·have d5:decide (x<y)=true:=aR
    have:=Aop hl hx hy h1 p7;simp (maxSteps:=10^6)+contextual(disch:=try exact dqd)only[ev0,simprocAttr,Cd,Cb,Ce,results179,e0,e1,e5,d2,d4,d5,digA,hx',px,hp];simp [cmpN,this]
   ·have d5:decide (x<y)=false:=aR
    have:=Aop hl.symm hy hx aA fun j hj=>(p7 j hj).symm;simp (maxSteps:=10^6)+contextual(disch:=try exact dqd)only[ev0,simprocAttr,Cd,Cb,Ce,results179,e0,e1,e5,d2,d4,d5,digA,hx',px,hp];rw [cmpN,if_neg aA,if_pos this]
theorem Aar (l:List Int) (id ep:Nat) (hlen:l.length<=1000000) (h:entAt S id ep=some (l.map numC)):cL prog 180 [.sref id ep 0 l.length 1] S tk k=some (.sref id ep 0 (Dx l).length 1,S,tk,k):=by
 refine opS func180 ntmps180 ?_;have hid:id<S.length:=by
  obtain ⟨e,h1,-⟩:=Dz h;exact Bh h1
 simp (maxSteps:=10^6)+contextual(disch:=try exact dqd)only[evs0,simprocAttr,Cd,Cb,Ce,results180];refine Af5 (P:=prog) (fun x st=>st.T.length=21/\(x<=l.length)/\(∀ j,x<=j->∀ x,nth l j=some x->x=0)/\getT st.T 0=.sref id ep 0 x 1/\st.S=S/\st.tk=tk/\st.n=k) (fun x=>x) (fun x=>(.sref id ep 0 (Dx l).length 1,S,tk,k)) (l.length) ?_ ?_;case refine_2=>exact ⟨rfl,Cc _,W5 l,rfl,rfl,rfl,rfl⟩
 rintro n ⟨T,S',tk',n'⟩ ⟨hl,hn,hz,e0,eS,eT,eN⟩ IH;subst eS eT eN;obtain ⟨g,hg,hT⟩:=Au hl;rw [hg] at e0;subst hT;clear hg hl;by_cases h0:n=0
 ·have d1:decide ((n:Int) > 0)=false:=aB
  have ht:=Jt hn hz (.inl h0);simp (maxSteps:=10^6)+contextual(disch:=try exact dqd)only[evs0,simprocAttr,Cd,Cb,Ce,results180,e0,d1];rw [ht]; simp [h0]
 ·have d1:decide ((n:Int) > 0)=true:=aB
  have hp:=Aek h0 aA;have b8:n - 1<l.length:=aA
  have az:n - 1<n:=aA
  have b7:n - 1<=n:=aA
  obtain ⟨x,hx⟩:=Af b8;have hx':=Aj6 hx;by_cases qd:x=0
  ·have d2:(x == 0)=true:=fF
   simp (maxSteps:=10^6)+contextual(disch:=try exact dqd)only[evs0,simprocAttr,Cd,Cb,Ce,results180,e0,d1,d2,hp,hx',h,b8,az,b7,Ib,Kk,bound,intN_cast,Cc,Co,O0,Nat.sub_zero,M9];exact IH (n - 1) _ aF ⟨rfl,aE,Abt hz hx qd,by and_intros <;> first|rfl|simp only [getT,Ij,Cp,Fi,digC,digA]⟩
  ·have d2:(x == 0)=false:=fF
   have ht:=Jt hn hz (.inr ⟨x,hx,qd⟩);simp (maxSteps:=10^6)+contextual(disch:=try exact dqd)only[evs0,simprocAttr,Cd,Cb,Ce,results180,e0,d1,d2,hp,hx',h,b8,az,Ib,Kk,bound,intN_cast,hn,Cc,Co,O0,Nat.sub_zero,M9];rw [ht]; simp; omega
theorem Tz (X Y:Nat) (ha:(dig X).length<=100000) (hb:(dig Y).length<=100000):cL prog 182 [digA (dig X),digA (dig Y)] S tk k=some (digA (dig (X*Y)),S,tk,k):=by
 refine opP func182 ntmps182 ?_;have hw:Cf.wrap (((dig X).length:Int)+((dig Y).length:Int))=(((dig X).length+(dig Y).length:Nat):Int):=aS
 have hbo:(A7 prog 45).bind (Je prog)=some 8:=aL
 have j0:=Aso (P:=prog) (t:=45) (n:=(dig X).length+(dig Y).length) bK bK hbo aA;simp (maxSteps:=10^6)+contextual(disch:=try exact dqd)only[ev0,simprocAttr,Cd,Cb,Ce,results182,digA,hw,j0];refine loop1 (P:=prog) (fun x st=>st.T.length=67/\(x.1<=(dig X).length)/\(Mul1 X Y x.1 x.2)/\getT st.T 0=digA (dig X)/\getT st.T 1=digA (dig Y)/\getT st.T 5=.sref 0 0 0 ((dig X).length+(dig Y).length) 1/\getT st.T 18=digA (dig X)/\getT st.T 19=.int (dig X).length/\getT st.T 20=.int (x.1:Nat)/\st.S=[⟨0,x.2.map numC⟩]) (fun x=>(dig X).length - x.1) (fun x=>digA (dig (X*Y))) (0,Ci ((dig X).length+(dig Y).length) 0) ?_ ?_;case refine_2=>exact ⟨rfl,Co _,Mul1.start X Y,rfl,rfl,rfl,rfl,rfl,rfl,rfl⟩
 rintro ⟨i,out⟩ ⟨T,S',tk',n'⟩ ⟨hl,hi,hp,e0,e1,e5,e18,e19,e20,eS⟩ IH;simp only at hi hp e0 e1 e5 e18 e19 e20 eS;subst eS;obtain ⟨g,hg,hT⟩:=Au hl;rw [hg] at e0 e1 e5 e18 e19 e20;subst hT;clear hg hl;have OUT:=IH;clear IH;have hlen:=hp.len;by_cases hlt:i<(dig X).length
 ·have d2:decide ((i:Int)<((dig X).length:Int))=true:=aI
  obtain ⟨d,hd⟩:=Af hlt;have dd:=Gj hd;have u5:=Gb (Da X) hd;have dt:=Bb (i:=i) aA;have ah:=Mul2.start (d:=d) hp;simp (maxSteps:=10^6)+contextual(disch:=try exact dqd)only[ev0,simprocAttr,Cd,Cb,Ce,results182,digA,e0,e1,e5,e18,e19,e20,d2,dd];refine loop1 (P:=prog) (fun x st=>st.T.length=67/\(x.1<=(dig Y).length)/\(Mul2 X Y i x.1 (val out+10000 ^ i*(d*Y)) d x.2.1 x.2.2)/\getT st.T 0=digA (dig X)/\getT st.T 1=digA (dig Y)/\getT st.T 5=.sref 0 0 0 ((dig X).length+(dig Y).length) 1/\getT st.T 6=.int (i:Nat)/\getT st.T 7=.int d/\getT st.T 8=.int x.2.1/\getT st.T 18=digA (dig X)/\getT st.T 19=.int (dig X).length/\getT st.T 20=.int (i:Nat)/\getT st.T 25=digA (dig Y)/\getT st.T 26=.int (dig Y).length/\getT st.T 27=.int (x.1:Nat)/\st.S=[⟨0,x.2.2.map numC⟩]) (fun x=>(dig Y).length - x.1) (fun x=>digA (dig (X*Y))) (0,0,out) ?_ ?_;case refine_2=>exact ⟨rfl,Co _,ah,rfl,rfl,rfl,rfl,rfl,rfl,rfl,rfl,rfl,rfl,rfl,rfl,rfl⟩
  rintro ⟨m,c,o2⟩ ⟨T,S',tk',n'⟩ ⟨hl,hm,hq,e0,e1,e5,e6,e7,e8,e18,e19,e20,e25,e26,e27,eS⟩ IH;simp only at hm hq e0 e1 e5 e6 e7 e8 e18 e19 e20 e25 e26 e27 eS;subst eS;obtain ⟨g,hg,hT⟩:=Au hl;rw [hg] at e0 e1 e5 e6 e7 e8 e18 e19 e20 e25 e26 e27;subst hT;clear hg hl;have a2s:=hq.len;have hc0:=hq.c0;have ip:=Bb (i:=m) aA;obtain ⟨x,hx⟩:=Af (show i+m<o2.length by omega);have hx':=Aj6 hx;have fv:i+m<(dig X).length+(dig Y).length:=aA
  have zh:Cf.wrap ((i:Int)+(m:Int))=((i+m:Nat):Int):=aS
  have hxk:=Gb hq.ok hx;by_cases cm:m<(dig Y).length
  ·have d3:decide ((m:Int)<((dig Y).length:Int))=true:=by simpa using cm
   obtain ⟨y,hy⟩:=Af cm;have px:=Gj hy;have hyk:=Gb (Da Y) hy;obtain ⟨n,hn⟩:∃ n,n=c+x+d*y:=⟨_,rfl⟩;obtain ⟨hq2,hn0,b8,az⟩:=hq.step (n:=n) aA u5 hx (by rw [hn,hy]; rfl);have s8:0<=d*y:=iX u5.1 hyk.1;have hw1:Cf.wrap (d*y)=d*y:=Ab aC;have hw2:Cf.wrap (x+d*y)=x+d*y:=Ab aC;have hw3:Cf.wrap (x+d*y+c)=n:=by rw [hn,Ab aC]; omega
   have yf:Cf.wrap (n.tdiv 10000)=n.tdiv 10000:=by rw [az,Ab aC]
   have lp:¬ ((10000:Int)=0):=aA
   have jy:=Aef (v:=n.tmod 10000) hx;simp (maxSteps:=10^6)+contextual(disch:=try exact dqd)only[ev0,simprocAttr,Cd,Cb,Ce,results182,digA,e0,e1,e5,e6,e7,e8,e18,e19,e20,e25,e26,e27,d3,px,ip,zh,fv,hx',hw1,hw2,hw3,yf,lp,jy,Ib];exact IH (m+1,n.tdiv 10000,o2.set (i+m) (n.tmod 10000)) _ aF ⟨rfl,aE,hq2,aD,aD,aD,aD,aD,aD,aD,aD,aD,aD,aD,aD,aD⟩
  ·have d3:decide ((m:Int)<((dig Y).length:Int))=false:=by simpa using cm
   have yg:m=(dig Y).length:=aA
   subst yg;obtain ⟨-,s9⟩:=hq.next hp hd hx
   have hw4:Cf.wrap (x+c)=x+c:=Ab aC;have jy:=Aef (v:=x+c) hx;simp (maxSteps:=10^6)+contextual(disch:=try exact dqd)only[ev0,simprocAttr,Cd,Cb,Ce,results182,digA,e0,e1,e5,e6,e7,e8,e18,e19,e20,e25,e26,e27,d3,dt,zh,fv,hx',hw4,jy,Ib];exact OUT (i+1,o2.set (i+(dig Y).length) (x+c)) _ aF ⟨rfl,aE,s9,aD,aD,aD,aD,aD,aD,aD⟩
 ·have d2:decide ((i:Int)<((dig X).length:Int))=false:=aI
  have he:i=(dig X).length:=aA
  subst he;have zi:=hp.done;have hT:=Aar [⟨0,out.map numC⟩] tk' n' out 0 0 aA rfl;rw [hlen] at hT;rw [zi] at hT;simp (maxSteps:=10^6)+contextual(disch:=try exact dqd)only[ev0,simprocAttr,Cd,Cb,Ce,results182,digA,e0,e1,e5,e18,e19,e20,d2,hT];have di:P8 (Jq 1 (dig (X*Y)).length (out.map numC))=.frz ((dig (X*Y)).map digC) .unk:=by
   rw [<- zi,Agq (Qw out),Agr,<- Jc]
  rw [di]
end
end
end Go.Proofs.YtcandeobhlfkbaaGreat
