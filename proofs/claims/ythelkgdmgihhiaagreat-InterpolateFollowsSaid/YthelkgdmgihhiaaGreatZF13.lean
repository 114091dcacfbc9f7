/- Part 13. -/
import Derived.Test.YthelkgdmgihhiaaGreatZF12
import Derived.Deep.OwnRows
import Derived.OwnWalk
open Go.Addr renaming add->kB
open Go.IntKind renaming i64->Cd
open Go.Lib renaming hid->Cp
open Go.Proofs.YthelkgdmgihhiaaGreat.AV renaming bool->Bm,int->Ca,str->Cb
open Go.RowKit.Below renaming refl->Fw
open Int renaming tdiv_eq_ediv_of_nonneg->Cz,mul_comm->Fu,tmod_eq_emod_of_nonneg->F7,mul_assoc->G0,pow_succ->L3,mul_add->Oi,mul_zero->Q4,add_zero->Ss,mul_sub->jF
open List renaming map_cons->Cn,map_nil->Cs,mem_append->C3,getElem?_eq_none->C5,take_length->Fb,take_of_length_le->Fc,length_map->Fg,map_append->Fk,drop_zero->Fx,take_succ_cons->Ga,mem_of_getElem?->Il,getElem?_take_of_lt->I5,getElem?_cons_zero->Mf,take_take->kV
open Nat renaming le_refl->Ce,zero_le->Cl,le_trans->Fp,lt_or_ge->Ig,lt_of_le_of_lt->Iw,gcd_zero_right->Nd,mod_lt->Oq,gcd_comm->jL
open Option renaming bind_some->Oj,getD_some->Ol
open Option.some renaming injEq->Ba
namespace Go.Proofs.YthelkgdmgihhiaaGreat
section
open Go Tryz Go.RowKit
set_option maxHeartbeats 4000000
set_option maxRecDepth 100000
structure N3 (X Y:List Int) (i:Nat) (zs:List Int) (c:Int):Prop where
 len:zs.length=i
 ok:okD zs
 c01:c=0\/c=1
 eqv:val zs - c*10000 ^ i=val (X.take i) - val (Y.take i)
theorem Ab4 {α:Type} : ∀ {l:List α} {i:Nat} {x:α},nth l i=some x->l.take (i+1)=l.take i++[x]
 | y :: l,0,x,h=>dG
 | y :: l,i+1,x,h=>by rw [Ga,Ga,Ab4 (l:=l) (i:=i) h]; rfl
 | [],_,_,h=>bM
theorem H7 (l:List Int) (i:Nat):val (l.take (i+1))=val (l.take i)+10000 ^ i*(nth l i).getD 0:=by
 by_cases h:i<l.length
 ·obtain ⟨x,hx⟩:=Ac h;rw [Ab4 hx,Gj,hx];have:(l.take i).length=i:=aC
  rw [this]; simp [val]
 ·rw [Fc aA,Fc aA,Af,C5 aA]; simp
theorem N3.start (X Y:List Int):N3 X Y 0 [] 0:=⟨rfl,fun d hd=>by simp at hd,.inl rfl,by simp [val]⟩
theorem N3.step {X Y zs:List Int} {i:Nat} {c x y d e:Int} (h:N3 X Y i zs c) (hx:nth X i=some x) (hy:y=(nth Y i).getD 0) (hd:0<=d/\d<10000) (he:e=0\/e=1) (hde:d - 10000*e=x - c - y):N3 X Y (i+1) (zs++[d]) e:=by
 refine ⟨eU,fun a ha=>?_,he,?_⟩
 ·rcases C3.1 ha with ha|ha
  ·exact h.ok a ha
  ·have:a=d:=gK
   rw [this]; exact hd
 ·have hv:=h.eqv;rw [Gj,H7,H7,hx,<- hy,h.len,L3];simp only [val,Ol];have e1:(10000:Int) ^ i*(d+10000*0) - e*(10000 ^ i*10000)=10000 ^ i*(x - c - y):=by
   rw [<- hde,jF,Q4,Ss,Fu e,G0]
  rw [jF,jF] at e1;have e2:c*(10000:Int) ^ i=10000 ^ i*c:=Fu _ _;omega
theorem N3.done {a b:Nat} {zs:List Int} {c:Int} (h:N3 (dig a) (dig b) (dig a).length zs c) (hab:b<=a):Dm zs=dig (a - b):=by
 have hl:(dig b).length<=(dig a).length:=Bg.2 (Iw hab (Bg.1 (Ce _)));have hv:=h.eqv;rw [Fb,Fc hl,Br,Br] at hv;have h1:=Agw h.ok;rw [h.len] at h1;have h2:=Ed h.ok;have hc:c=0:=by
  rcases h.c01 with h|h
  ·exact h
  ·subst h; omega
 subst hc;rw [D6 h.ok];congr 1;omega
theorem Alg:(prog.info? 3).map (fun i=>(i.zero,i.size,i.bytes))=some (some (.int .i64 0),1,8):=aM
theorem row_app {w0 w1:World} {v:Value} {zs:List Int} {d:Int} (hO:OR w1 w0.heap.size v zs) (hB:Below w0.heap.size w0 w1) (hlen:zs.length<=1000000) {ops:Array Oper} {rest:List Oper} {op:Oper} {a:Act} {Q:Exit->Act->World->Prop} {s x:Operand}
  (hgd:op.guard=none) (ho:op.op=.call { callee:=.builtin .append,args:=#[s,x],argTypes:=#[58,58] }) (hs:a.eval s=v) (hx:a.eval x=.slice (some ⟨w1.heap.size,0,none⟩) 1 1)
  (h:∀ v' w',OR w' w0.heap.size v' (zs++[d])->Below w0.heap.size w0 w'->wpList prog ops Q rest (a.put op.dst v') w'):wpList prog ops Q (op :: rest) a (w1.alloc (.cells #[num d] 3)):=by
 obtain ⟨i0,hi,hz0,hz1,hz2⟩:=info_parts Alg;have hb2:Below w1.heap.size w1 (w1.alloc (.cells #[num d] 3)):=(Fw _ _).alloc (Ce _) _;refine wpList_append_own _ hgd _ _ 58 ho w0.heap.size 3 i0 (.int .i64 0) 1 8 underlying58 hi hz0 hz1 hz2 rfl aP v zs.length (zs.map num) hs (hO.below hb2) ⟨w1.heap.size,0,none⟩ 1 1 [num d] hx rfl (fun j u hj=>?_) (fun u hu=>?_) fF aA (Fp hB.size hb2.size) (fun v' w' hown hg hn=>?_)
 ·cases j with
  | zero =>
   simp only [Mf,Ba] at hj;subst hj;have ha:kB ⟨w1.heap.size,0,none⟩ 0=⟨w1.heap.size,0,none⟩:=by simp [kB]
   rw [ha,Lib.cell_of_heap (Ax w1 _)];rfl
  | succ j=>simp at hj
 ·have:u=num d:=eQ
  subst this; rfl
 ·refine h v' w' ?_ ((hB.trans (hb2.mono hB.size)).grown hg (Fp hB.size hb2.size) fun j hj=>?_)
  ·have e:(zs++[d]).length=zs.length+1:=by simp
   have e2:(zs++[d]).map num=zs.map num++[num d]:=by simp
   unfold OR;rw [e,e2]; exact hown
  ·exact (hO.lt j hj).1
theorem make0 {w:World} {N:Nat} (hN:N<=1000000) {ops:Array Oper} {rest:List Oper} {op:Oper} {a:Act} {Q:Exit->Act->World->Prop} {l c:Operand} (hgd:op.guard=none) (hop:op.op=.makeSlice 58 l c) (hl:a.eval l=.int .i64 0) (hc:a.eval c=.int .i64 (N:Nat))
  (h:∀ v w',OR w' w.heap.size v []->Below w.heap.size w w'->wpList prog ops Q rest (a.put op.dst v) w'):wpList prog ops Q (op :: rest) a w:=by
 obtain ⟨i0,hi,hz0,hz1,hz2⟩:=info_parts Alg;refine wpList_plain hgd fun K hK'=>?_;have hrun:=run_make (P:=prog) w 58 3 i0 (.int .i64 0) underlying58 hi hz0 .i64 .i64 0 N aA aA (by rw [hz2]; omega) aA;unfold Oper.wp;simp [execOp,hop,hl,hc,hrun,Result.andThen];refine hK' _ _ (h _ _ ?_ ((Fw _ _).alloc (Ce _) _));exact World.ownsRow_made w _ N (Ce _) fF (by simp [madeCells,hz1])
def R5:Value->Int|.int _ n=>n|_=>0
theorem Aph (w:World) (vx vy:Value) (a b:Nat) (hx:RD w vx (dig a)) (hy:RD w vy (dig b)) (hab:b<=a) (hlen:(dig a).length<=100000) (hp:0<w.heap.size) :
  Calls prog 237 #[vx,vy] w fun e w'=>∃ v,e=.returned v/\OR w' w.heap.size v (dig (a - b))/\Below w.heap.size w w':=by
 have hlb:(dig b).length<=100000:=Fp (Bg.2 (Iw hab (Bg.1 (Ce _)))) hlen;obtain ⟨ax,cx,rfl,hcx,hX⟩:=Mh hx;obtain ⟨ay,cy,rfl,hcy,hY⟩:=Mh hy;have HX:=Cp hX;have HY:=Cp hY;have HD:=Cp (fun (zs:List Int) (c:Int) (h:N3 (dig a) (dig b) (dig a).length zs c)=>h.done hab);have HS:=Cp (N3.start (dig a) (dig b));have HKX:=Cp (Bf a);have HKY:=Cp (Bf b);clear hX hY hx hy hab;generalize hXX:dig a=X at *;generalize hYY:dig b=Y at *;generalize hN:X.length=N at *;generalize hM:Y.length=M at *;have HN:=Cp (show N<=1000000 by omega);go_enter func237,ntmps237;go_wp2_with (at_make; refine make0 HN.out rfl rfl rfl rfl ?_; intro v1 w1 hO1 hB1; have HO1:=Cp hO1; have HB1:=Cp hB1; clear hO1 hB1);go_loopw [5,6,14] (fun v c i wr=>∃ (n:Nat) (zs:List Int) (cc:Int),i=.int .i64 n/\n<=N/\c=.int .i64 cc/\(cc=0\/cc=1)/\Hid (N3 X Y n zs cc)/\Hid (OR wr w.heap.size v zs)/\Hid (Below w.heap.size w wr)) (fun _ _ i _=>N - (R5 i).toNat);case atStart=>exact ⟨0,[],0,rfl,Cl _,rfl,.inl rfl,HS,HO1,HB1⟩
 case round =>
  obtain ⟨n,zs,cc,rfl,hn,rfl,hcc,HI,HO,HB⟩:=hrel
  have hzl:zs.length=n:=HI.out.len
  by_cases hlt:n<N
  rotate_left
  ·have hne:n=N:=aA
   subst hne
   obtain ⟨av,cv,rfl,hcv,hcells⟩:=Mh (HO.out.rd hp)
   have hT:=Za wr av cv zs aA hcv fun j x hx=>by
    exact Ya40
   rw [hzl] at hT
   have HT:=Cp hT
   have HR:=Cp HO.out.trim
   clear hT hcv
   have HE:=Cp (HD.out zs cc HI.out)
   clear hcells
   go_wp2_with (go_at_call 234; refine HT.out.mono ?_; rintro e w6 ⟨rfl,rfl⟩)
   go_ret
   have hR:=HR.out
   rw [HE.out] at hR ⊢
   exact ⟨_,rfl,hR,HB.out⟩
  obtain ⟨x,hx⟩:=Ac (show n<X.length by omega)
  obtain ⟨bx,ox,rfl,hcx0,-⟩:=HX.out n x hx
  have hxk:=HKX.out x dY
  have hcell:=(HB.out.cell (Gx hcx0)).trans hcx0
  have hi1:Cd.wrap ((n:Int)+1)=((n+1:Nat):Int):=aS
  have hg1:(n:Int)<(N:Int):=aA
  have hw1:Cd.wrap (x - cc)=x - cc:=Aa aD
  have HN2:=Cp (show zs.length<=1000000 by omega)
  have HXX:=Cp hx
  clear hx hcx0
  by_cases hm:n<M
  ·obtain ⟨y,hy⟩:=Ac (show n<Y.length by omega)
   obtain ⟨by',oy,rfl,hcy0,-⟩:=HY.out n y hy
   have hyk:=HKY.out y Za1w
   have hcelly:=(HB.out.cell (Gx hcy0)).trans hcy0
   have hg2:(n:Int)<(M:Int):=aA
   have hw2:Cd.wrap (x - cc - y)=x - cc - y:=Aa aD
   have HYY:=Cp (show y=(nth Y n).getD 0 by rw [hy]; rfl)
   clear hy hcy0
   by_cases hneg:x - cc - y<0
   ·have hw3:Cd.wrap (x - cc - y+10000)=x - cc - y+10000:=Aa aD
    have HL:=Cp (HI.out.step (d:=x - cc - y+10000) (e:=1) HXX.out HYY.out aA (.inr rfl) aA)
    go_wp2_with (at_builtin; refine row_app HO.out HB.out HN2.out rfl rfl rfl rfl ?_; intro v2 w2 hO2 hB2; have HO2:=Cp hO2; have HB2:=Cp hB2; clear hO2 hB2)
    exact ⟨⟨n+1,_,1,congrArg _ aA,aA,rfl,.inr rfl,HL,HO2,HB2⟩,fV⟩
   ·have HL:=Cp (HI.out.step (d:=x - cc - y) (e:=0) HXX.out HYY.out aA (.inl rfl) aA)
    go_wp2_with (at_builtin; refine row_app HO.out HB.out HN2.out rfl rfl rfl rfl ?_; intro v2 w2 hO2 hB2; have HO2:=Cp hO2; have HB2:=Cp hB2; clear hO2 hB2)
    exact ⟨⟨n+1,_,0,congrArg _ aA,aA,rfl,.inl rfl,HL,HO2,HB2⟩,fV⟩
  ·have hg2:¬ (n:Int)<(M:Int):=aA
   have HYY:=Cp (show (0:Int)=(nth Y n).getD 0 by rw [Af,C5 aA]; rfl)
   by_cases hneg:x - cc<0
   ·have hw3:Cd.wrap (x - cc+10000)=x - cc+10000:=Aa aD
    have HL:=Cp (HI.out.step (d:=x - cc+10000) (e:=1) HXX.out HYY.out aA (.inr rfl) aA)
    go_wp2_with (at_builtin; refine row_app HO.out HB.out HN2.out rfl rfl rfl rfl ?_; intro v2 w2 hO2 hB2; have HO2:=Cp hO2; have HB2:=Cp hB2; clear hO2 hB2)
    exact ⟨⟨n+1,_,1,congrArg _ aA,aA,rfl,.inr rfl,HL,HO2,HB2⟩,fV⟩
   ·have HL:=Cp (HI.out.step (d:=x - cc) (e:=0) HXX.out HYY.out aA (.inl rfl) aA)
    go_wp2_with (at_builtin; refine row_app HO.out HB.out HN2.out rfl rfl rfl rfl ?_; intro v2 w2 hO2 hB2; have HO2:=Cp hO2; have HB2:=Cp hB2; clear hO2 hB2)
    exact ⟨⟨n+1,_,0,congrArg _ aA,aA,rfl,.inl rfl,HL,HO2,HB2⟩,fV⟩
end
section
open Go Tryz
set_option maxRecDepth 100000
structure SumI (X Y:List Int) (i:Nat) (zs:List Int) (c:Int):Prop where
 len:zs.length=i
 ok:okD zs
 c01:0<=c/\c<=1
 eqv:val zs+c*10000 ^ i=val (X.take i)+val (Y.take i)
theorem SumI.start (X Y:List Int):SumI X Y 0 [] 0:=⟨rfl,fun d hd=>by simp at hd,aA,by simp [val]⟩
theorem SumI.step {X Y zs:List Int} {i:Nat} {c x y n:Int} (h:SumI X Y i zs c) (hx:nth X i=some x) (hy:y=(nth Y i).getD 0) (hxk:0<=x/\x<10000) (hyk:0<=y/\y<10000) (hn:n=x+c+y):SumI X Y (i+1) (zs++[n.tmod 10000]) (n.tdiv 10000):=by
 have hc:=h.c01;have e1:n.tdiv 10000=n / 10000:=Cz aA;have e2:n.tmod 10000=n % 10000:=F7 aA;rw [e1,e2];refine ⟨eU,fun a ha=>?_,aA,?_⟩
 ·rcases C3.1 ha with ha|ha
  ·exact h.ok a ha
  ·have:a=n % 10000:=gK
   omega
 ·have hv:=h.eqv;rw [Gj,H7,H7,hx,<- hy,h.len,L3];simp only [val,Ol];have e3:(10000:Int) ^ i*(n % 10000+10000*0)+n / 10000*(10000 ^ i*10000)=10000 ^ i*x+10000 ^ i*c+10000 ^ i*y:=by
   rw [<- Oi,<- Oi,<- hn,Q4,Ss,Fu (n / 10000),G0,<- Oi];congr 1;omega
  have e4:c*(10000:Int) ^ i=10000 ^ i*c:=Fu _ _;omega
theorem SumI.done {a b:Nat} {zs:List Int} {c:Int} (h:SumI (dig a) (dig b) (dig a).length zs c) (hl:(dig b).length<=(dig a).length):Dm (zs++[c])=dig (a+b):=by
 have hv:=h.eqv;rw [Fb,Fc hl,Br,Br] at hv;have hc:=h.c01;rw [D6 (fun d hd=>by
  rcases C3.1 hd with hd|hd
  ·exact h.ok d hd
  ·have:d=c:=by simpa using hd
   omega)]
 congr 1;rw [Gj,h.len];simp only [val,Q4,Ss];rw [Fu (10000 ^ _)];omega
theorem Ade {P:Program} {t:TypeId} {n:Nat} (hz:(Bc P t).bind (A2 P)=some [.prim (.int .i64 0)]) (hs:(Bc P t).bind (szOf P)=some 1) (hb:(Bc P t).bind (Hq P)=some 8) (hn:n<=1048576) :
  mkA P t (.prim (.int .i64 0)) (.prim (.int .i64 (n:Int)))=some (0,1,Aqd n):=by
 unfold mkA;rw [hz,hs,hb,intN_cast,intN_zero];simp only [mkB];rw [if_pos ⟨Cl _,hn,aA,rfl⟩,Aca]; rfl
theorem Aje [Globs] {P:Program} [Ext P] {fn:Func} {M:Md} {call:Bo} {all l:List Oper} {d:Option Tmp} {ty:TypeId} {pos:String} {af:Array Edge} {T:List AV} {S:List Ent} {tk:List Nat} {n:Nat} {k:List Kont} {t:TypeId} {y:Operand} {tg:Tag (all,((⟨d,.makeSlice t (.const (.int .i64 0)) y,ty,pos,af,none⟩:Oper) :: l),k)} :
  RX P fn M call all (⟨d,.makeSlice t (.const (.int .i64 0)) y,ty,pos,af,none⟩ :: l) ⟨T,S,tk,n⟩ k tg=NS (mkA P t (opv T (.const (.int .i64 0))) (opv T y)) (fun (m,sz,cs)=>RX P fn M call all l ⟨putT T d (.frz [] (.tok tk.length 0 sz)),S,tk++[0],n⟩ k .mk) .mk:=RX_makeSlice0 ⟨rfl⟩
section
variable (S:List Ent) (tk:List Nat) (k:Nat)
theorem Yv (l:List Int) (c:Cap) (hlen:l.length<=1000000):cL prog 234 [.frz (l.map digC) c] S tk k=some (digA (Dm l),S,tk,k):=by
 refine opP func234 ntmps234 ?_;simp (maxSteps:=10^6)+contextual(disch:=try exact dqd)only[ev0,simprocAttr,Ca,Bm,Cb,results234];refine loop1 (P:=prog) (fun x st=>st.T.length=21/\(x.1<=l.length)/\(∀ j,x.1<=j->∀ x,nth l j=some x->x=0)/\(x.2=l.take x.1)/\getT st.T 0=digA x.2/\st.S=[]) (fun x=>x.1) (fun x=>digA (Dm l)) (l.length,l) ?_ ?_;case refine_2=>exact ⟨rfl,Ce _,Pp l,(Fb).symm,rfl,rfl⟩
 rintro ⟨n,t⟩ ⟨T,S',tk',n'⟩ ⟨hl,hn,hz,u0,e0,eS⟩ IH;simp only at hn hz u0 e0 eS;subst eS;obtain ⟨g,hg,hT⟩:=Ar hl;rw [hg] at e0;subst hT;clear hg hl;subst u0;have hl:(l.take n).length=n:=aC
 by_cases h0:n=0
 ·have d1:decide ((n:Int) > 0)=false:=aC
  have ht:=Gs hn hz (.inl h0);simp (maxSteps:=10^6)+contextual(disch:=try exact dqd)only[ev0,simprocAttr,Ca,Bm,Cb,results234,e0,digA,hl,d1];rw [ht]
 ·have d1:decide ((n:Int) > 0)=true:=aC
  have hp:=Tk h0 aA;have ci:n - 1<l.length:=aA
  obtain ⟨x,hx⟩:=Ac ci;have zw:nth (l.take n) (n - 1)=some x:=by rw [Af,I5 aA,<- Af]; exact hx
  have hx':=B0 zw;by_cases iw:x=0
  ·have d2:(x == 0)=true:=cR
   have hsl:Hy prog 58 (.frz ((l.take n).map digC) .unk) none (some (AV.prim (.int .i64 ((n - 1:Nat):Int)))) none=some (.frz ((l.take (n - 1)).map digC) .unk):=by
    have h1:(Bc prog 58).bind (szOf prog)=some 1:=bF
    unfold Hy;simp only [h1,Dv,if_true,bound,intN_cast,Fg,hl];rw [if_pos aA];simp only [Cl,if_true,Fx,<- List.map_take,kV];congr 4;omega
   simp (maxSteps:=10^6)+contextual(disch:=try exact dqd)only[ev0,simprocAttr,Ca,Bm,Cb,results234,e0,digA,hl,d1,d2,hp,hx',hsl];exact IH (n - 1,l.take (n - 1)) _ aF ⟨rfl,aE,Up hz hx iw,rfl,aB,aB⟩
  ·have d2:(x == 0)=false:=cR
   have ht:=Gs hn hz (.inr ⟨x,hx,iw⟩);simp (maxSteps:=10^6)+contextual(disch:=try exact dqd)only[ev0,simprocAttr,Ca,Bm,Cb,results234,e0,digA,hl,d1,d2,hp,hx'];rw [ht]
theorem As2 (a b:Nat) (ha:(dig a).length<=100000) (hb:(dig b).length<=100000):cL prog 265 [digA (dig a),digA (dig b)] S tk k=some (digA (dig (a+b)),S,tk,k):=by
 refine opP func265 ntmps265 ?_;rcases Ig (dig a).length (dig b).length with h|h
 ·have d1:decide (((dig a).length:Int)<((dig b).length:Int))=true:=aL
  rw [Nat.add_comm];have hle:(dig a).length<=(dig b).length:=aA
  have hw:Cd.wrap (((dig b).length:Int)+1)=(((dig b).length+1:Nat):Int):=A4 aA;have ya:(Bc prog 58).bind (Hq prog)=some 8:=aM
  have j7:=Ade (P:=prog) (t:=58) (n:=(dig b).length+1) bF bF ya aA;simp (maxSteps:=10^6)+contextual(disch:=try exact dqd)only[ev0,simprocAttr,Ca,Bm,Cb,results265,digA,d1,hw,j7,↓Aje];refine loop1 (P:=prog) (fun x st=>st.T.length=53/\(x.1<=(dig b).length)/\(SumI (dig b) (dig a) x.1 x.2.1 x.2.2.1)/\(Be st.tk x.2.2.2 1=true)/\getT st.T 1=digA (dig a)/\getT st.T 5=.frz (x.2.1.map digC) x.2.2.2/\getT st.T 6=.int x.2.2.1/\getT st.T 20=digA (dig b)/\getT st.T 21=.int (dig b).length/\getT st.T 22=.int (x.1:Nat)/\st.S=[]) (fun x=>(dig b).length - x.1) (fun x=>digA (dig (b+a))) (0,[],0,.tok 0 0 1) ?_ ?_;case refine_2=>exact ⟨rfl,Cl _,SumI.start _ _,rfl,rfl,rfl,rfl,rfl,rfl,rfl,rfl⟩
  rintro ⟨i,zs,c,cp⟩ ⟨T,S',tk',n'⟩ ⟨hl,hi,hI,ab,e1,e5,e6,e20,e21,e22,eS⟩ IH;simp only at hi hI ab e1 e5 e6 e20 e21 e22 eS;subst eS;obtain ⟨g,hg,hT⟩:=Ar hl;rw [hg] at e1 e5 e6 e20 e21 e22;subst hT;clear hg hl;have dx:=A4 (i:=i) aA;have hzl:=hI.len;have hr:=Dv zs;have hc:=hI.c01;have am:=Bi ab;have ci:(zs.map digC).length+1<=1048576:=aC
  by_cases hlt:i<(dig b).length
  ·have d2:decide ((i:Int)<((dig b).length:Int))=true:=aN
   obtain ⟨x,hx⟩:=Ac hlt;have hx':=B0 hx;have hxk:=Df (Bf b) hx;have hw1:Cd.wrap (x+c)=x+c:=Aa aD;have ft:¬ ((10000:Int)=0):=aA
   by_cases hm:i<(dig a).length
   ·have d3:decide ((i:Int)<((dig a).length:Int))=true:=bX
    obtain ⟨y,hy⟩:=Ac hm;have f9:=B0 hy;have hyk:=Df (Bf a) hy;exact Yak
   ·have d3:decide ((i:Int)<((dig a).length:Int))=false:=bX
    exact Yal
  ·have d2:decide ((i:Int)<((dig b).length:Int))=false:=aN
   have g9:i=(dig b).length:=aA
   exact Yaz
 ·have d1:decide (((dig a).length:Int)<((dig b).length:Int))=false:=aC
  have hle:(dig b).length<=(dig a).length:=aA
  have hw:Cd.wrap (((dig a).length:Int)+1)=(((dig a).length+1:Nat):Int):=A4 aA;have ya:(Bc prog 58).bind (Hq prog)=some 8:=aM
  have j7:=Ade (P:=prog) (t:=58) (n:=(dig a).length+1) bF bF ya aA;simp (maxSteps:=10^6)+contextual(disch:=try exact dqd)only[ev0,simprocAttr,Ca,Bm,Cb,results265,digA,d1,hw,j7,↓Aje];refine loop1 (P:=prog) (fun x st=>st.T.length=53/\(x.1<=(dig a).length)/\(SumI (dig a) (dig b) x.1 x.2.1 x.2.2.1)/\(Be st.tk x.2.2.2 1=true)/\getT st.T 1=digA (dig b)/\getT st.T 5=.frz (x.2.1.map digC) x.2.2.2/\getT st.T 6=.int x.2.2.1/\getT st.T 20=digA (dig a)/\getT st.T 21=.int (dig a).length/\getT st.T 22=.int (x.1:Nat)/\st.S=[]) (fun x=>(dig a).length - x.1) (fun x=>digA (dig (a+b))) (0,[],0,.tok 0 0 1) ?_ ?_;case refine_2=>exact ⟨rfl,Cl _,SumI.start _ _,rfl,rfl,rfl,rfl,rfl,rfl,rfl,rfl⟩
  rintro ⟨i,zs,c,cp⟩ ⟨T,S',tk',n'⟩ ⟨hl,hi,hI,ab,e1,e5,e6,e20,e21,e22,eS⟩ IH;simp only at hi hI ab e1 e5 e6 e20 e21 e22 eS;subst eS;obtain ⟨g,hg,hT⟩:=Ar hl;rw [hg] at e1 e5 e6 e20 e21 e22;subst hT;clear hg hl;have dx:=A4 (i:=i) aA;have hzl:=hI.len;have hr:=Dv zs;have hc:=hI.c01;have am:=Bi ab;have ci:(zs.map digC).length+1<=1048576:=aC
  by_cases hlt:i<(dig a).length
  ·have d2:decide ((i:Int)<((dig a).length:Int))=true:=aN
   obtain ⟨x,hx⟩:=Ac hlt;have hx':=B0 hx;have hxk:=Df (Bf a) hx;have hw1:Cd.wrap (x+c)=x+c:=Aa aD;have ft:¬ ((10000:Int)=0):=aA
   by_cases hm:i<(dig b).length
   ·have d3:decide ((i:Int)<((dig b).length:Int))=true:=bX
    obtain ⟨y,hy⟩:=Ac hm;have f9:=B0 hy;have hyk:=Df (Bf b) hy;exact Yak
   ·have d3:decide ((i:Int)<((dig b).length:Int))=false:=bX
    exact Yal
  ·have d2:decide ((i:Int)<((dig a).length:Int))=false:=aN
   have g9:i=(dig a).length:=aA
   exact Yaz
end
section
variable (S:List Ent) (tk:List Nat) (k:Nat)
theorem Af9 (a b:Nat) (hab:b<=a) (ha:(dig a).length<=100000):cL prog 237 [digA (dig a),digA (dig b)] S tk k=some (digA (dig (a - b)),S,tk,k):=by
 have hlb:(dig b).length<=(dig a).length:=Bg.2 (Iw hab (Bg.1 (Ce _)));have ya:(Bc prog 58).bind (Hq prog)=some 8:=aM
 have j7:=Ade (P:=prog) (t:=58) (n:=(dig a).length) bF bF ya aA;refine opP func237 ntmps237 ?_;simp (maxSteps:=10^6)+contextual(disch:=try exact dqd)only[ev0,simprocAttr,Ca,Bm,Cb,results237,digA,j7,↓Aje];refine loop1 (P:=prog) (fun x st=>st.T.length=43/\(x.1<=(dig a).length)/\(N3 (dig a) (dig b) x.1 x.2.1 x.2.2.1)/\(Be st.tk x.2.2.2 1=true)/\getT st.T 1=digA (dig b)/\getT st.T 5=.frz (x.2.1.map digC) x.2.2.2/\getT st.T 6=.int x.2.2.1/\getT st.T 12=digA (dig a)/\getT st.T 13=.int (dig a).length/\getT st.T 14=.int (x.1:Nat)/\st.S=[]) (fun x=>(dig a).length - x.1) (fun x=>digA (dig (a - b))) (0,[],0,.tok 0 0 1) ?_ ?_;case refine_2=>exact ⟨rfl,Cl _,N3.start _ _,rfl,rfl,rfl,rfl,rfl,rfl,rfl,rfl⟩
 rintro ⟨i,zs,c,cp⟩ ⟨T,S',tk',n'⟩ ⟨hl,hi,hI,ab,e1,e5,e6,e12,e13,e14,eS⟩ IH;simp only at hi hI ab e1 e5 e6 e12 e13 e14 eS;subst eS;obtain ⟨g,hg,hT⟩:=Ar hl;rw [hg] at e1 e5 e6 e12 e13 e14;subst hT;clear hg hl;have dx:=A4 (i:=i) aA;have hzl:=hI.len;have hr:=Dv zs;have hc:=hI.c01;have am:=Bi ab;have ci:(zs.map digC).length+1<=1048576:=aC
 by_cases hlt:i<(dig a).length
 ·have d2:decide ((i:Int)<((dig a).length:Int))=true:=aN
  obtain ⟨x,hx⟩:=Ac hlt;have hx':=B0 hx;have hxk:=Df (Bf a) hx;have hw1:Cd.wrap (x - c)=x - c:=Aa aD;by_cases hm:i<(dig b).length
  ·have d3:decide ((i:Int)<((dig b).length:Int))=true:=bX
   obtain ⟨y,hy⟩:=Ac hm;have f9:=B0 hy;have hyk:=Df (Bf b) hy;have yb:y=(nth (dig b) i).getD 0:=gX
   have hw2:Cd.wrap (x - c - y)=x - c - y:=Aa aD;by_cases hneg:x - c - y<0
   ·have d4:decide (x - c - y<0)=true:=aZ
    have hw3:Cd.wrap (x - c - y+10000)=x - c - y+10000:=Aa aD;simp (maxSteps:=10^6)+contextual(disch:=try exact dqd)only[ev0,simprocAttr,Ca,Bm,Cb,results237,e1,e5,e6,e12,e13,e14,digA,d2,d3,d4,hx',f9,dx,hw1,hw2,hw3,hr];exact IH (i+1,zs++[x - c - y+10000],1,Az tk' cp 1) _ aF ⟨rfl,aE,hI.step hx yb aE (.inr rfl) aE,am,aB,aB,aB,aB,aB,aB,aB⟩
   ·have d4:decide (x - c - y<0)=false:=aZ
    simp (maxSteps:=10^6)+contextual(disch:=try exact dqd)only[ev0,simprocAttr,Ca,Bm,Cb,results237,e1,e5,e6,e12,e13,e14,digA,d2,d3,d4,hx',f9,dx,hw1,hw2,hr];exact IH (i+1,zs++[x - c - y],0,Az tk' cp 1) _ aF ⟨rfl,aE,hI.step hx yb aE (.inl rfl) aE,am,aB,aB,aB,aB,aB,aB,aB⟩
  ·have d3:decide ((i:Int)<((dig b).length:Int))=false:=bX
   have yb:(0:Int)=(nth (dig b) i).getD 0:=by rw [Af,C5 aA]; rfl
   by_cases hneg:x - c<0
   ·have d4:decide (x - c<0)=true:=aZ
    have hw3:Cd.wrap (x - c+10000)=x - c+10000:=Aa aD;simp (maxSteps:=10^6)+contextual(disch:=try exact dqd)only[ev0,simprocAttr,Ca,Bm,Cb,results237,e1,e5,e6,e12,e13,e14,digA,d2,d3,d4,hx',dx,hw1,hw3,hr];exact IH (i+1,zs++[x - c+10000],1,Az tk' cp 1) _ aF ⟨rfl,aE,hI.step hx yb aE (.inr rfl) aE,am,aB,aB,aB,aB,aB,aB,aB⟩
   ·have d4:decide (x - c<0)=false:=aZ
    simp (maxSteps:=10^6)+contextual(disch:=try exact dqd)only[ev0,simprocAttr,Ca,Bm,Cb,results237,e1,e5,e6,e12,e13,e14,digA,d2,d3,d4,hx',dx,hw1,hr];exact IH (i+1,zs++[x - c],0,Az tk' cp 1) _ aF ⟨rfl,aE,hI.step hx yb aE (.inl rfl) aE,am,aB,aB,aB,aB,aB,aB,aB⟩
 ·have d2:decide ((i:Int)<((dig a).length:Int))=false:=aN
  have g9:i=(dig a).length:=aA
  subst g9;have hT c' S tk k:=Yv S tk k zs c' aA;rw [hI.done hab] at hT;simp only [digC,digA] at hT;simp (maxSteps:=10^6)+contextual(disch:=try exact dqd)only[ev0,simprocAttr,Ca,Bm,Cb,results237,e1,e5,e6,e12,e13,e14,digA,d2,hT]
theorem Ra (a b:Nat) (ha:a<=1000000000000000000) (hb:b<=1000000000000000000):cL prog 231 [.int (a:Nat),.int (b:Nat)] S tk k=some (.int ((a.gcd b:Nat):Int),S,tk,k):=by
 refine opP func231 ntmps231 ?_;simp (maxSteps:=10^6)+contextual(disch:=try exact dqd)only[ev0,simprocAttr,Ca,Bm,Cb,results231];refine loop1 (P:=prog) (fun x st=>st.T.length=12/\(x.1.gcd x.2=a.gcd b)/\(x.1<=1000000000000000000)/\(x.2<=1000000000000000000)/\getT st.T 0=.int (x.1:Nat)/\getT st.T 1=.int (x.2:Nat)/\st.S=[]) (fun x=>x.2) (fun x=>.int ((a.gcd b:Nat):Int)) (a,b) ?_ ?_;case refine_2=>exact ⟨rfl,rfl,ha,hb,rfl,rfl,rfl⟩
 rintro ⟨x,y⟩ ⟨T,S',tk',n'⟩ ⟨hl,hg,hx,hy,e0,e1,eS⟩ IH;simp only at hg hx hy e0 e1 eS;subst eS;obtain ⟨g,hg,hT⟩:=Ar hl;rw [hg] at e0 e1;subst hT;clear hg hl;by_cases h0:y=0
 ·subst h0;have d1:(((0:Nat):Int) != 0)=false:=rfl;rw [Nd] at hg;simp (maxSteps:=10^6)+contextual(disch:=try exact dqd)only[ev0,simprocAttr,Ca,Bm,Cb,results231,e0,e1,d1];rw [hg]
 ·have d1:((y:Int) != 0)=true:=aV
  have ft:¬ ((y:Int)=0):=aA
  have hm:(x:Int).tmod (y:Int)=((x % y:Nat):Int):=cC
  simp (maxSteps:=10^6)+contextual(disch:=try exact dqd)only[ev0,simprocAttr,Ca,Bm,Cb,results231,e0,e1,d1,ft,hm];have hlt:=Oq x (by omega:0<y);exact IH (y,x % y) _ aF ⟨rfl,Za0f,hy,aE,aB,aB,aB⟩
end
end
end Go.Proofs.YthelkgdmgihhiaaGreat
