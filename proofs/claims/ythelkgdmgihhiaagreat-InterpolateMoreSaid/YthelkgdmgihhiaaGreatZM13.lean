/- Part 13. -/
import Derived.Test.YthelkgdmgihhiaaGreatZM12
import Derived.Deep.OwnRows
import Derived.OwnWalk
open Go.Addr renaming add->gV
open Go.IntKind renaming i64->Ce
open Go.Lib renaming hid->Cl
open Go.Proofs.YthelkgdmgihhiaaGreat.AV renaming bool->Ca,int->Cg,str->Ch
open Go.RowKit.Below renaming refl->Fb
open Int renaming tdiv_eq_ediv_of_nonneg->C9,mul_comm->Fp,mul_assoc->F1,tmod_eq_emod_of_nonneg->F5,pow_succ->Iu,mul_add->I7,mul_zero->O1,add_zero->Rv,mul_sub->fT
open List renaming map_cons->Cm,mem_append->Cr,map_nil->Cw,getElem?_eq_none->E9,take_of_length_le->Fa,drop_zero->Fs,map_append->Ft,take_succ_cons->F4,length_map->Ib,mem_of_getElem?->Il,getElem?_take_of_lt->Iq,take_length->Ir,getElem?_cons_zero->Iv,take_take->iP
open Nat renaming le_refl->Cb,zero_le->Cs,le_trans->Fv,lt_or_ge->Ic,lt_of_le_of_lt->Ix,gcd_zero_right->Sa,mod_lt->Sc
open Option renaming bind_some->Lg,getD_some->gH
open Option.some renaming injEq->A0
namespace Go.Proofs.YthelkgdmgihhiaaGreat
section
open Go Tryz Go.RowKit
set_option maxHeartbeats 4000000
set_option maxRecDepth 100000
structure Pl (X Y:List Int) (i:Nat) (zs:List Int) (c:Int):Prop where
 len:zs.length=i
 ok:okD zs
 c01:c=0\/c=1
 eqv:val zs - c*10000 ^ i=val (X.take i) - val (Y.take i)
theorem Yy {α:Type} : ∀ {l:List α} {i:Nat} {x:α},nth l i=some x->l.take (i+1)=l.take i++[x]
 | y :: l,0,x,h=>dU
 | y :: l,i+1,x,h=>by rw [F4,F4,Yy (l:=l) (i:=i) h]; rfl
 | [],_,_,h=>bU
theorem He (l:List Int) (i:Nat):val (l.take (i+1))=val (l.take i)+10000 ^ i*(nth l i).getD 0:=by
 by_cases h:i<l.length
 ·obtain ⟨x,hx⟩:=Ah h;rw [Yy hx,Gc,hx];have:(l.take i).length=i:=aB
  rw [this]; simp [val]
 ·rw [Fa aA,Fa aA,Ae,E9 aA]; simp
theorem Pl.start (X Y:List Int):Pl X Y 0 [] 0:=⟨rfl,fun d hd=>by simp at hd,.inl rfl,by simp [val]⟩
theorem Pl.step {X Y zs:List Int} {i:Nat} {c x y d e:Int} (h:Pl X Y i zs c) (hx:nth X i=some x) (hy:y=(nth Y i).getD 0) (hd:0<=d/\d<10000) (he:e=0\/e=1) (hde:d - 10000*e=x - c - y):Pl X Y (i+1) (zs++[d]) e:=by
 refine ⟨dR,fun a ha=>?_,he,?_⟩
 ·rcases Cr.1 ha with ha|ha
  ·exact h.ok a ha
  ·have:a=d:=by simpa using ha
   rw [this]; exact hd
 ·have hv:=h.eqv;rw [Gc,He,He,hx,<- hy,h.len,Iu];simp only [val,gH];have e1:(10000:Int) ^ i*(d+10000*0) - e*(10000 ^ i*10000)=10000 ^ i*(x - c - y):=by
   rw [<- hde,fT,O1,Rv,Fp e,F1]
  rw [fT,fT] at e1;have e2:c*(10000:Int) ^ i=10000 ^ i*c:=Fp _ _;omega
theorem Pl.done {a b:Nat} {zs:List Int} {c:Int} (h:Pl (dig a) (dig b) (dig a).length zs c) (hab:b<=a):Dk zs=dig (a - b):=by
 have hl:(dig b).length<=(dig a).length:=Bg.2 (Ix hab (Bg.1 (Cb _)));have hv:=h.eqv;rw [Ir,Fa hl,B4,B4] at hv;have h1:=Acv h.ok;rw [h.len] at h1;have h2:=En h.ok;have hc:c=0:=by
  rcases h.c01 with h|h
  ·exact h
  ·subst h; omega
 subst hc;rw [Dw h.ok];congr 1;omega
theorem Ag3:(prog.info? 3).map (fun i=>(i.zero,i.size,i.bytes))=some (some (.int .i64 0),1,8):=aK
theorem row_app {w0 w1:World} {v:Value} {zs:List Int} {d:Int} (hO:OR w1 w0.heap.size v zs) (hB:Below w0.heap.size w0 w1) (hlen:zs.length<=1000000) {ops:Array Oper} {rest:List Oper} {op:Oper} {a:Act} {Q:Exit->Act->World->Prop} {s x:Operand}
  (hgd:op.guard=none) (ho:op.op=.call { callee:=.builtin .append,args:=#[s,x],argTypes:=#[58,58] }) (hs:a.eval s=v) (hx:a.eval x=.slice (some ⟨w1.heap.size,0,none⟩) 1 1)
  (h:∀ v' w',OR w' w0.heap.size v' (zs++[d])->Below w0.heap.size w0 w'->wpList prog ops Q rest (a.put op.dst v') w'):wpList prog ops Q (op :: rest) a (w1.alloc (.cells #[num d] 3)):=by
 obtain ⟨i0,hi,hz0,hz1,hz2⟩:=info_parts Ag3;have hb2:Below w1.heap.size w1 (w1.alloc (.cells #[num d] 3)):=(Fb _ _).alloc (Cb _) _;refine wpList_append_own _ hgd _ _ 58 ho w0.heap.size 3 i0 (.int .i64 0) 1 8 underlying58 hi hz0 hz1 hz2 rfl aL v zs.length (zs.map num) hs (hO.below hb2) ⟨w1.heap.size,0,none⟩ 1 1 [num d] hx rfl (fun j u hj=>?_) (fun u hu=>?_) eD aA (Fv hB.size hb2.size) (fun v' w' hown hg hn=>?_)
 ·cases j with
  | zero =>
   simp only [Iv,A0] at hj;subst hj;have ha:gV ⟨w1.heap.size,0,none⟩ 0=⟨w1.heap.size,0,none⟩:=by simp [gV]
   rw [ha,Lib.cell_of_heap (An w1 _)];rfl
  | succ j=>simp at hj
 ·have:u=num d:=dM
  subst this; rfl
 ·refine h v' w' ?_ ((hB.trans (hb2.mono hB.size)).grown hg (Fv hB.size hb2.size) fun j hj=>?_)
  ·have e:(zs++[d]).length=zs.length+1:=by simp
   have e2:(zs++[d]).map num=zs.map num++[num d]:=by simp
   unfold OR;rw [e,e2]; exact hown
  ·exact (hO.lt j hj).1
theorem make0 {w:World} {N:Nat} (hN:N<=1000000) {ops:Array Oper} {rest:List Oper} {op:Oper} {a:Act} {Q:Exit->Act->World->Prop} {l c:Operand} (hgd:op.guard=none) (hop:op.op=.makeSlice 58 l c) (hl:a.eval l=.int .i64 0) (hc:a.eval c=.int .i64 (N:Nat))
  (h:∀ v w',OR w' w.heap.size v []->Below w.heap.size w w'->wpList prog ops Q rest (a.put op.dst v) w'):wpList prog ops Q (op :: rest) a w:=by
 obtain ⟨i0,hi,hz0,hz1,hz2⟩:=info_parts Ag3;refine wpList_plain hgd fun K hK'=>?_;have hrun:=run_make (P:=prog) w 58 3 i0 (.int .i64 0) underlying58 hi hz0 .i64 .i64 0 N aA aA (by rw [hz2]; omega) aA;unfold Oper.wp;simp [execOp,hop,hl,hc,hrun,Result.andThen];refine hK' _ _ (h _ _ ?_ ((Fb _ _).alloc (Cb _) _));exact World.ownsRow_made w _ N (Cb _) eD (by simp [madeCells,hz1])
def Po:Value->Int|.int _ n=>n|_=>0
theorem Akq (w:World) (vx vy:Value) (a b:Nat) (hx:RD w vx (dig a)) (hy:RD w vy (dig b)) (hab:b<=a) (hlen:(dig a).length<=100000) (hp:0<w.heap.size) :
  Calls prog 237 #[vx,vy] w fun e w'=>∃ v,e=.returned v/\OR w' w.heap.size v (dig (a - b))/\Below w.heap.size w w':=by
 have hlb:(dig b).length<=100000:=Fv (Bg.2 (Ix hab (Bg.1 (Cb _)))) hlen;obtain ⟨ax,cx,rfl,hcx,hX⟩:=K4 hx;obtain ⟨ay,cy,rfl,hcy,hY⟩:=K4 hy;have HX:=Cl hX;have HY:=Cl hY;have HD:=Cl (fun (zs:List Int) (c:Int) (h:Pl (dig a) (dig b) (dig a).length zs c)=>h.done hab);have HS:=Cl (Pl.start (dig a) (dig b));have HKX:=Cl (Br a);have HKY:=Cl (Br b);clear hX hY hx hy hab;generalize hXX:dig a=X at *;generalize hYY:dig b=Y at *;generalize hN:X.length=N at *;generalize hM:Y.length=M at *;have HN:=Cl (show N<=1000000 by omega);go_enter func237,ntmps237;go_wp2_with (at_make; refine make0 HN.out rfl rfl rfl rfl ?_; intro v1 w1 hO1 hB1; have HO1:=Cl hO1; have HB1:=Cl hB1; clear hO1 hB1);go_loopw [5,6,14] (fun v c i wr=>∃ (n:Nat) (zs:List Int) (cc:Int),i=.int .i64 n/\n<=N/\c=.int .i64 cc/\(cc=0\/cc=1)/\Hid (Pl X Y n zs cc)/\Hid (OR wr w.heap.size v zs)/\Hid (Below w.heap.size w wr)) (fun _ _ i _=>N - (Po i).toNat);case atStart=>exact ⟨0,[],0,rfl,Cs _,rfl,.inl rfl,HS,HO1,HB1⟩
 case round =>
  obtain ⟨n,zs,cc,rfl,hn,rfl,hcc,HI,HO,HB⟩:=hrel
  have hzl:zs.length=n:=HI.out.len
  by_cases hlt:n<N
  rotate_left
  ·have hne:n=N:=aA
   subst hne
   obtain ⟨av,cv,rfl,hcv,hcells⟩:=K4 (HO.out.rd hp)
   have hT:=Wf wr av cv zs aA hcv fun j x hx=>by
    exact Ya2w
   rw [hzl] at hT
   have HT:=Cl hT
   have HR:=Cl HO.out.trim
   clear hT hcv
   have HE:=Cl (HD.out zs cc HI.out)
   clear hcells
   go_wp2_with (go_at_call 234; refine HT.out.mono ?_; rintro e w6 ⟨rfl,rfl⟩)
   go_ret
   have hR:=HR.out
   rw [HE.out] at hR ⊢
   exact ⟨_,rfl,hR,HB.out⟩
  obtain ⟨x,hx⟩:=Ah (show n<X.length by omega)
  obtain ⟨bx,ox,rfl,hcx0,-⟩:=HX.out n x hx
  have hxk:=HKX.out x dW
  have hcell:=(HB.out.cell (E2 hcx0)).trans hcx0
  have hi1:Ce.wrap ((n:Int)+1)=((n+1:Nat):Int):=aT
  have hg1:(n:Int)<(N:Int):=aA
  have hw1:Ce.wrap (x - cc)=x - cc:=Ac aD
  have HN2:=Cl (show zs.length<=1000000 by omega)
  have HXX:=Cl hx
  clear hx hcx0
  by_cases hm:n<M
  ·obtain ⟨y,hy⟩:=Ah (show n<Y.length by omega)
   obtain ⟨by',oy,rfl,hcy0,-⟩:=HY.out n y hy
   have hyk:=HKY.out y Za2a
   have hcelly:=(HB.out.cell (E2 hcy0)).trans hcy0
   have hg2:(n:Int)<(M:Int):=aA
   have hw2:Ce.wrap (x - cc - y)=x - cc - y:=Ac aD
   have HYY:=Cl (show y=(nth Y n).getD 0 by rw [hy]; rfl)
   clear hy hcy0
   by_cases hneg:x - cc - y<0
   ·have hw3:Ce.wrap (x - cc - y+10000)=x - cc - y+10000:=Ac aD
    have HL:=Cl (HI.out.step (d:=x - cc - y+10000) (e:=1) HXX.out HYY.out aA (.inr rfl) aA)
    go_wp2_with (at_builtin; refine row_app HO.out HB.out HN2.out rfl rfl rfl rfl ?_; intro v2 w2 hO2 hB2; have HO2:=Cl hO2; have HB2:=Cl hB2; clear hO2 hB2)
    exact ⟨⟨n+1,_,1,congrArg _ aA,aA,rfl,.inr rfl,HL,HO2,HB2⟩,eR⟩
   ·have HL:=Cl (HI.out.step (d:=x - cc - y) (e:=0) HXX.out HYY.out aA (.inl rfl) aA)
    go_wp2_with (at_builtin; refine row_app HO.out HB.out HN2.out rfl rfl rfl rfl ?_; intro v2 w2 hO2 hB2; have HO2:=Cl hO2; have HB2:=Cl hB2; clear hO2 hB2)
    exact ⟨⟨n+1,_,0,congrArg _ aA,aA,rfl,.inl rfl,HL,HO2,HB2⟩,eR⟩
  ·have hg2:¬ (n:Int)<(M:Int):=aA
   have HYY:=Cl (show (0:Int)=(nth Y n).getD 0 by rw [Ae,E9 aA]; rfl)
   by_cases hneg:x - cc<0
   ·have hw3:Ce.wrap (x - cc+10000)=x - cc+10000:=Ac aD
    have HL:=Cl (HI.out.step (d:=x - cc+10000) (e:=1) HXX.out HYY.out aA (.inr rfl) aA)
    go_wp2_with (at_builtin; refine row_app HO.out HB.out HN2.out rfl rfl rfl rfl ?_; intro v2 w2 hO2 hB2; have HO2:=Cl hO2; have HB2:=Cl hB2; clear hO2 hB2)
    exact ⟨⟨n+1,_,1,congrArg _ aA,aA,rfl,.inr rfl,HL,HO2,HB2⟩,eR⟩
   ·have HL:=Cl (HI.out.step (d:=x - cc) (e:=0) HXX.out HYY.out aA (.inl rfl) aA)
    go_wp2_with (at_builtin; refine row_app HO.out HB.out HN2.out rfl rfl rfl rfl ?_; intro v2 w2 hO2 hB2; have HO2:=Cl hO2; have HB2:=Cl hB2; clear hO2 hB2)
    exact ⟨⟨n+1,_,0,congrArg _ aA,aA,rfl,.inl rfl,HL,HO2,HB2⟩,eR⟩
end
section
open Go Tryz
set_option maxRecDepth 100000
structure SumI (X Y:List Int) (i:Nat) (zs:List Int) (c:Int):Prop where
 len:zs.length=i
 ok:okD zs
 c01:0<=c/\c<=1
 eqv:val zs+c*10000 ^ i=val (X.take i)+val (Y.take i)
theorem SumI.start (X Y:List Int):SumI X Y 0 [] 0:=⟨rfl,fun d hd=>by simp at hd,aA,by simp [val]⟩
theorem SumI.step {X Y zs:List Int} {i:Nat} {c x y n:Int} (h:SumI X Y i zs c) (hx:nth X i=some x) (hy:y=(nth Y i).getD 0) (hxk:0<=x/\x<10000) (hyk:0<=y/\y<10000) (hn:n=x+c+y):SumI X Y (i+1) (zs++[n.tmod 10000]) (n.tdiv 10000):=by
 have hc:=h.c01;have e1:n.tdiv 10000=n / 10000:=C9 aA;have e2:n.tmod 10000=n % 10000:=F5 aA;rw [e1,e2];refine ⟨dR,fun a ha=>?_,aA,?_⟩
 ·rcases Cr.1 ha with ha|ha
  ·exact h.ok a ha
  ·have:a=n % 10000:=by simpa using ha
   omega
 ·have hv:=h.eqv;rw [Gc,He,He,hx,<- hy,h.len,Iu];simp only [val,gH];have e3:(10000:Int) ^ i*(n % 10000+10000*0)+n / 10000*(10000 ^ i*10000)=10000 ^ i*x+10000 ^ i*c+10000 ^ i*y:=by
   rw [<- I7,<- I7,<- hn,O1,Rv,Fp (n / 10000),F1,<- I7];congr 1;omega
  have e4:c*(10000:Int) ^ i=10000 ^ i*c:=Fp _ _;omega
theorem SumI.done {a b:Nat} {zs:List Int} {c:Int} (h:SumI (dig a) (dig b) (dig a).length zs c) (hl:(dig b).length<=(dig a).length):Dk (zs++[c])=dig (a+b):=by
 have hv:=h.eqv;rw [Ir,Fa hl,B4,B4] at hv;have hc:=h.c01;rw [Dw (fun d hd=>by
  rcases Cr.1 hd with hd|hd
  ·exact h.ok d hd
  ·have:d=c:=by simpa using hd
   omega)]
 congr 1;rw [Gc,h.len];simp only [val,O1,Rv];rw [Fp (10000 ^ _)];omega
theorem Z2 {P:Program} {t:TypeId} {n:Nat} (hz:(A7 P t).bind (Ar P)=some [.prim (.int .i64 0)]) (hs:(A7 P t).bind (szOf P)=some 1) (hb:(A7 P t).bind (H5 P)=some 8) (hn:n<=1048576) :
  mkA P t (.prim (.int .i64 0)) (.prim (.int .i64 (n:Int)))=some (0,1,Ara n):=by
 unfold mkA;rw [hz,hs,hb,intN_cast,intN_zero];simp only [mkB];rw [if_pos ⟨Cs _,hn,aA,rfl⟩,Y4]; rfl
theorem Ae1 [Globs] {P:Program} [Ext P] {fn:Func} {M:Md} {call:Bd} {all l:List Oper} {d:Option Tmp} {ty:TypeId} {pos:String} {af:Array Edge} {T:List AV} {S:List Ent} {tk:List Nat} {n:Nat} {k:List Kont} {t:TypeId} {y:Operand} {tg:Tag (all,((⟨d,.makeSlice t (.const (.int .i64 0)) y,ty,pos,af,none⟩:Oper) :: l),k)} :
  RX P fn M call all (⟨d,.makeSlice t (.const (.int .i64 0)) y,ty,pos,af,none⟩ :: l) ⟨T,S,tk,n⟩ k tg=NS (mkA P t (opv T (.const (.int .i64 0))) (opv T y)) (fun (m,sz,cs)=>RX P fn M call all l ⟨putT T d (.frz [] (.tok tk.length 0 sz)),S,tk++[0],n⟩ k .mk) .mk:=RX_makeSlice0 ⟨rfl⟩
section
variable (S:List Ent) (tk:List Nat) (k:Nat)
theorem V2 (l:List Int) (c:Cap) (hlen:l.length<=1000000):cL prog 234 [.frz (l.map digC) c] S tk k=some (digA (Dk l),S,tk,k):=by
 refine opP func234 ntmps234 ?_;simp (maxSteps:=10^6)+contextual(disch:=try exact dqd)only[ev0,simprocAttr,Cg,Ca,Ch,results234];refine loop1 (P:=prog) (fun x st=>st.T.length=21/\(x.1<=l.length)/\(∀ j,x.1<=j->∀ x,nth l j=some x->x=0)/\(x.2=l.take x.1)/\getT st.T 0=digA x.2/\st.S=[]) (fun x=>x.1) (fun x=>digA (Dk l)) (l.length,l) ?_ ?_;case refine_2=>exact ⟨rfl,Cb _,Vi l,(Ir).symm,rfl,rfl⟩
 rintro ⟨n,t⟩ ⟨T,S',tk',n'⟩ ⟨hl,hn,hz,r6,e0,eS⟩ IH;simp only at hn hz r6 e0 eS;subst eS;obtain ⟨g,hg,hT⟩:=Aw hl;rw [hg] at e0;subst hT;clear hg hl;subst r6;have hl:(l.take n).length=n:=aB
 by_cases h0:n=0
 ·have d1:decide ((n:Int) > 0)=false:=aB
  have ht:=Ji hn hz (.inl h0);simp (maxSteps:=10^6)+contextual(disch:=try exact dqd)only[ev0,simprocAttr,Cg,Ca,Ch,results234,e0,digA,hl,d1];rw [ht]
 ·have d1:decide ((n:Int) > 0)=true:=aB
  have hp:=Ab5 h0 aA;have cj:n - 1<l.length:=aA
  obtain ⟨x,hx⟩:=Ah cj;have xi:nth (l.take n) (n - 1)=some x:=by rw [Ae,Iq aA,<- Ae]; exact hx
  have hx':=E5 xi;by_cases sd:x=0
  ·have d2:(x == 0)=true:=fB
   have hsl:Nh prog 58 (.frz ((l.take n).map digC) .unk) none (some (AV.prim (.int .i64 ((n - 1:Nat):Int)))) none=some (.frz ((l.take (n - 1)).map digC) .unk):=by
    have h1:(A7 prog 58).bind (szOf prog)=some 1:=bH
    unfold Nh;simp only [h1,Gr,if_true,bound,intN_cast,Ib,hl];rw [if_pos aA];simp only [Cs,if_true,Fs,<- List.map_take,iP];congr 4;omega
   simp (maxSteps:=10^6)+contextual(disch:=try exact dqd)only[ev0,simprocAttr,Cg,Ca,Ch,results234,e0,digA,hl,d1,d2,hp,hx',hsl];exact IH (n - 1,l.take (n - 1)) _ aF ⟨rfl,aE,Zp hz hx sd,rfl,aC,aC⟩
  ·have d2:(x == 0)=false:=fB
   have ht:=Ji hn hz (.inr ⟨x,hx,sd⟩);simp (maxSteps:=10^6)+contextual(disch:=try exact dqd)only[ev0,simprocAttr,Cg,Ca,Ch,results234,e0,digA,hl,d1,d2,hp,hx'];rw [ht]
theorem An8 (a b:Nat) (ha:(dig a).length<=100000) (hb:(dig b).length<=100000):cL prog 265 [digA (dig a),digA (dig b)] S tk k=some (digA (dig (a+b)),S,tk,k):=by
 refine opP func265 ntmps265 ?_;rcases Ic (dig a).length (dig b).length with h|h
 ·have d1:decide (((dig a).length:Int)<((dig b).length:Int))=true:=aI
  rw [Nat.add_comm];have hle:(dig a).length<=(dig b).length:=aA
  have hw:Ce.wrap (((dig b).length:Int)+1)=(((dig b).length+1:Nat):Int):=Db aA;have zz:(A7 prog 58).bind (H5 prog)=some 8:=aK
  have j2:=Z2 (P:=prog) (t:=58) (n:=(dig b).length+1) bH bH zz aA;simp (maxSteps:=10^6)+contextual(disch:=try exact dqd)only[ev0,simprocAttr,Cg,Ca,Ch,results265,digA,d1,hw,j2,↓Ae1];refine loop1 (P:=prog) (fun x st=>st.T.length=53/\(x.1<=(dig b).length)/\(SumI (dig b) (dig a) x.1 x.2.1 x.2.2.1)/\(Ba st.tk x.2.2.2 1=true)/\getT st.T 1=digA (dig a)/\getT st.T 5=.frz (x.2.1.map digC) x.2.2.2/\getT st.T 6=.int x.2.2.1/\getT st.T 20=digA (dig b)/\getT st.T 21=.int (dig b).length/\getT st.T 22=.int (x.1:Nat)/\st.S=[]) (fun x=>(dig b).length - x.1) (fun x=>digA (dig (b+a))) (0,[],0,.tok 0 0 1) ?_ ?_;case refine_2=>exact ⟨rfl,Cs _,SumI.start _ _,rfl,rfl,rfl,rfl,rfl,rfl,rfl,rfl⟩
  rintro ⟨i,zs,c,cp⟩ ⟨T,S',tk',n'⟩ ⟨hl,hi,hI,ae,e1,e5,e6,e20,e21,e22,eS⟩ IH;simp only at hi hI ae e1 e5 e6 e20 e21 e22 eS;subst eS;obtain ⟨g,hg,hT⟩:=Aw hl;rw [hg] at e1 e5 e6 e20 e21 e22;subst hT;clear hg hl;have jp:=Db (i:=i) aA;have hzl:=hI.len;have hr:=Gr zs;have hc:=hI.c01;have cg:=B0 ae;have cj:(zs.map digC).length+1<=1048576:=aB
  by_cases hlt:i<(dig b).length
  ·have d2:decide ((i:Int)<((dig b).length:Int))=true:=aQ
   obtain ⟨x,hx⟩:=Ah hlt;have hx':=E5 hx;have hxk:=Du (Br b) hx;have hw1:Ce.wrap (x+c)=x+c:=Ac aD;have lw:¬ ((10000:Int)=0):=aA
   by_cases hm:i<(dig a).length
   ·have d3:decide ((i:Int)<((dig a).length:Int))=true:=cF
    obtain ⟨y,hy⟩:=Ah hm;have mn:=E5 hy;have hyk:=Du (Br a) hy;exact Yae
   ·have d3:decide ((i:Int)<((dig a).length:Int))=false:=cF
    exact Yaf
  ·have d2:decide ((i:Int)<((dig b).length:Int))=false:=aQ
   have mb:i=(dig b).length:=aA
   exact Yam
 ·have d1:decide (((dig a).length:Int)<((dig b).length:Int))=false:=aB
  have hle:(dig b).length<=(dig a).length:=aA
  have hw:Ce.wrap (((dig a).length:Int)+1)=(((dig a).length+1:Nat):Int):=Db aA;have zz:(A7 prog 58).bind (H5 prog)=some 8:=aK
  have j2:=Z2 (P:=prog) (t:=58) (n:=(dig a).length+1) bH bH zz aA;simp (maxSteps:=10^6)+contextual(disch:=try exact dqd)only[ev0,simprocAttr,Cg,Ca,Ch,results265,digA,d1,hw,j2,↓Ae1];refine loop1 (P:=prog) (fun x st=>st.T.length=53/\(x.1<=(dig a).length)/\(SumI (dig a) (dig b) x.1 x.2.1 x.2.2.1)/\(Ba st.tk x.2.2.2 1=true)/\getT st.T 1=digA (dig b)/\getT st.T 5=.frz (x.2.1.map digC) x.2.2.2/\getT st.T 6=.int x.2.2.1/\getT st.T 20=digA (dig a)/\getT st.T 21=.int (dig a).length/\getT st.T 22=.int (x.1:Nat)/\st.S=[]) (fun x=>(dig a).length - x.1) (fun x=>digA (dig (a+b))) (0,[],0,.tok 0 0 1) ?_ ?_;case refine_2=>exact ⟨rfl,Cs _,SumI.start _ _,rfl,rfl,rfl,rfl,rfl,rfl,rfl,rfl⟩
  rintro ⟨i,zs,c,cp⟩ ⟨T,S',tk',n'⟩ ⟨hl,hi,hI,ae,e1,e5,e6,e20,e21,e22,eS⟩ IH;simp only at hi hI ae e1 e5 e6 e20 e21 e22 eS;subst eS;obtain ⟨g,hg,hT⟩:=Aw hl;rw [hg] at e1 e5 e6 e20 e21 e22;subst hT;clear hg hl;have jp:=Db (i:=i) aA;have hzl:=hI.len;have hr:=Gr zs;have hc:=hI.c01;have cg:=B0 ae;have cj:(zs.map digC).length+1<=1048576:=aB
  by_cases hlt:i<(dig a).length
  ·have d2:decide ((i:Int)<((dig a).length:Int))=true:=aQ
   obtain ⟨x,hx⟩:=Ah hlt;have hx':=E5 hx;have hxk:=Du (Br a) hx;have hw1:Ce.wrap (x+c)=x+c:=Ac aD;have lw:¬ ((10000:Int)=0):=aA
   by_cases hm:i<(dig b).length
   ·have d3:decide ((i:Int)<((dig b).length:Int))=true:=cF
    obtain ⟨y,hy⟩:=Ah hm;have mn:=E5 hy;have hyk:=Du (Br b) hy;exact Yae
   ·have d3:decide ((i:Int)<((dig b).length:Int))=false:=cF
    exact Yaf
  ·have d2:decide ((i:Int)<((dig a).length:Int))=false:=aQ
   have mb:i=(dig a).length:=aA
   exact Yam
end
section
variable (S:List Ent) (tk:List Nat) (k:Nat)
theorem Acd (a b:Nat) (hab:b<=a) (ha:(dig a).length<=100000):cL prog 237 [digA (dig a),digA (dig b)] S tk k=some (digA (dig (a - b)),S,tk,k):=by
 have hlb:(dig b).length<=(dig a).length:=Bg.2 (Ix hab (Bg.1 (Cb _)));have zz:(A7 prog 58).bind (H5 prog)=some 8:=aK
 have j2:=Z2 (P:=prog) (t:=58) (n:=(dig a).length) bH bH zz aA;refine opP func237 ntmps237 ?_;simp (maxSteps:=10^6)+contextual(disch:=try exact dqd)only[ev0,simprocAttr,Cg,Ca,Ch,results237,digA,j2,↓Ae1];refine loop1 (P:=prog) (fun x st=>st.T.length=43/\(x.1<=(dig a).length)/\(Pl (dig a) (dig b) x.1 x.2.1 x.2.2.1)/\(Ba st.tk x.2.2.2 1=true)/\getT st.T 1=digA (dig b)/\getT st.T 5=.frz (x.2.1.map digC) x.2.2.2/\getT st.T 6=.int x.2.2.1/\getT st.T 12=digA (dig a)/\getT st.T 13=.int (dig a).length/\getT st.T 14=.int (x.1:Nat)/\st.S=[]) (fun x=>(dig a).length - x.1) (fun x=>digA (dig (a - b))) (0,[],0,.tok 0 0 1) ?_ ?_;case refine_2=>exact ⟨rfl,Cs _,Pl.start _ _,rfl,rfl,rfl,rfl,rfl,rfl,rfl,rfl⟩
 rintro ⟨i,zs,c,cp⟩ ⟨T,S',tk',n'⟩ ⟨hl,hi,hI,ae,e1,e5,e6,e12,e13,e14,eS⟩ IH;simp only at hi hI ae e1 e5 e6 e12 e13 e14 eS;subst eS;obtain ⟨g,hg,hT⟩:=Aw hl;rw [hg] at e1 e5 e6 e12 e13 e14;subst hT;clear hg hl;have jp:=Db (i:=i) aA;have hzl:=hI.len;have hr:=Gr zs;have hc:=hI.c01;have cg:=B0 ae;have cj:(zs.map digC).length+1<=1048576:=aB
 by_cases hlt:i<(dig a).length
 ·have d2:decide ((i:Int)<((dig a).length:Int))=true:=aQ
  obtain ⟨x,hx⟩:=Ah hlt;have hx':=E5 hx;have hxk:=Du (Br a) hx;have hw1:Ce.wrap (x - c)=x - c:=Ac aD;by_cases hm:i<(dig b).length
  ·have d3:decide ((i:Int)<((dig b).length:Int))=true:=cF
   obtain ⟨y,hy⟩:=Ah hm;have mn:=E5 hy;have hyk:=Du (Br b) hy;have hyg:y=(nth (dig b) i).getD 0:=by rw [hy]; rfl
   have hw2:Ce.wrap (x - c - y)=x - c - y:=Ac aD;by_cases hneg:x - c - y<0
   ·have d4:decide (x - c - y<0)=true:=cD
    have hw3:Ce.wrap (x - c - y+10000)=x - c - y+10000:=Ac aD;simp (maxSteps:=10^6)+contextual(disch:=try exact dqd)only[ev0,simprocAttr,Cg,Ca,Ch,results237,e1,e5,e6,e12,e13,e14,digA,d2,d3,d4,hx',mn,jp,hw1,hw2,hw3,hr];exact IH (i+1,zs++[x - c - y+10000],1,A4 tk' cp 1) _ aF ⟨rfl,aE,hI.step hx hyg aE (.inr rfl) aE,cg,aC,aC,aC,aC,aC,aC,aC⟩
   ·have d4:decide (x - c - y<0)=false:=cD
    simp (maxSteps:=10^6)+contextual(disch:=try exact dqd)only[ev0,simprocAttr,Cg,Ca,Ch,results237,e1,e5,e6,e12,e13,e14,digA,d2,d3,d4,hx',mn,jp,hw1,hw2,hr];exact IH (i+1,zs++[x - c - y],0,A4 tk' cp 1) _ aF ⟨rfl,aE,hI.step hx hyg aE (.inl rfl) aE,cg,aC,aC,aC,aC,aC,aC,aC⟩
  ·have d3:decide ((i:Int)<((dig b).length:Int))=false:=cF
   have hyg:(0:Int)=(nth (dig b) i).getD 0:=by rw [Ae,E9 aA]; rfl
   by_cases hneg:x - c<0
   ·have d4:decide (x - c<0)=true:=cD
    have hw3:Ce.wrap (x - c+10000)=x - c+10000:=Ac aD;simp (maxSteps:=10^6)+contextual(disch:=try exact dqd)only[ev0,simprocAttr,Cg,Ca,Ch,results237,e1,e5,e6,e12,e13,e14,digA,d2,d3,d4,hx',jp,hw1,hw3,hr];exact IH (i+1,zs++[x - c+10000],1,A4 tk' cp 1) _ aF ⟨rfl,aE,hI.step hx hyg aE (.inr rfl) aE,cg,aC,aC,aC,aC,aC,aC,aC⟩
   ·have d4:decide (x - c<0)=false:=cD
    simp (maxSteps:=10^6)+contextual(disch:=try exact dqd)only[ev0,simprocAttr,Cg,Ca,Ch,results237,e1,e5,e6,e12,e13,e14,digA,d2,d3,d4,hx',jp,hw1,hr];exact IH (i+1,zs++[x - c],0,A4 tk' cp 1) _ aF ⟨rfl,aE,hI.step hx hyg aE (.inl rfl) aE,cg,aC,aC,aC,aC,aC,aC,aC⟩
 ·have d2:decide ((i:Int)<((dig a).length:Int))=false:=aQ
  have mb:i=(dig a).length:=aA
  subst mb;have hT c' S tk k:=V2 S tk k zs c' aA;rw [hI.done hab] at hT;simp only [digC,digA] at hT;simp (maxSteps:=10^6)+contextual(disch:=try exact dqd)only[ev0,simprocAttr,Cg,Ca,Ch,results237,e1,e5,e6,e12,e13,e14,digA,d2,hT]
theorem N2 (a b:Nat) (ha:a<=1000000000000000000) (hb:b<=1000000000000000000):cL prog 231 [.int (a:Nat),.int (b:Nat)] S tk k=some (.int ((a.gcd b:Nat):Int),S,tk,k):=by
 refine opP func231 ntmps231 ?_;simp (maxSteps:=10^6)+contextual(disch:=try exact dqd)only[ev0,simprocAttr,Cg,Ca,Ch,results231];refine loop1 (P:=prog) (fun x st=>st.T.length=12/\(x.1.gcd x.2=a.gcd b)/\(x.1<=1000000000000000000)/\(x.2<=1000000000000000000)/\getT st.T 0=.int (x.1:Nat)/\getT st.T 1=.int (x.2:Nat)/\st.S=[]) (fun x=>x.2) (fun x=>.int ((a.gcd b:Nat):Int)) (a,b) ?_ ?_;case refine_2=>exact ⟨rfl,rfl,ha,hb,rfl,rfl,rfl⟩
 rintro ⟨x,y⟩ ⟨T,S',tk',n'⟩ ⟨hl,hg,hx,hy,e0,e1,eS⟩ IH;simp only at hg hx hy e0 e1 eS;subst eS;obtain ⟨g,hg,hT⟩:=Aw hl;rw [hg] at e0 e1;subst hT;clear hg hl;by_cases h0:y=0
 ·subst h0;have d1:(((0:Nat):Int) != 0)=false:=rfl;rw [Sa] at hg;simp (maxSteps:=10^6)+contextual(disch:=try exact dqd)only[ev0,simprocAttr,Cg,Ca,Ch,results231,e0,e1,d1];rw [hg]
 ·have d1:((y:Int) != 0)=true:=aS
  have lw:¬ ((y:Int)=0):=aA
  have hm:(x:Int).tmod (y:Int)=((x % y:Nat):Int):=dB
  simp (maxSteps:=10^6)+contextual(disch:=try exact dqd)only[ev0,simprocAttr,Cg,Ca,Ch,results231,e0,e1,d1,lw,hm];have hlt:=Sc x (by omega:0<y);exact IH (y,x % y) _ aF ⟨rfl,Za0r,hy,aE,aC,aC,aC⟩
end
end
end Go.Proofs.YthelkgdmgihhiaaGreat
