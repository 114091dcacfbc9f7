/- Part 1. -/
import Derived.KernelRfl
namespace Go.Proofs.YtcandeobhlfkbaaGreat
variable {p:Prop}
set_option linter.defProp false
def aA (h:p:=by omega):p:=h
def aD (h:p:=by first|rfl|simp only [getT,Ij,Cp,Fi,digC,digA]):p:=h
def aG (h:p:=by first|rfl|simp only [getT,Ij,Cp,Fi,strC,Ar,and_self]):p:=h
def aC (h:p:=by unfold i64; omega):p:=h
def aE (h:p:=by first|omega|(dsimp only; omega)):p:=h
def aF (h:p:=by first|omega|(simp only; omega)):p:=h
def aB (h:p:=by simp; omega):p:=h
def bI (h:p:=by first|rfl|simp only [getT,Ij,Cp,Fi,intC,and_self]):p:=h
def aQ (h:p:=by first|rfl|simp only [getT,Ij]):p:=h
def bA (h:p:=by and_intros <;> first|rfl|simp only [getT,Ij]):p:=h
def aK (h:p:=by first|rfl|assumption):p:=h
def dS (h:p:=by simp [Iv.putD,Iv.depsO,Iv.depsL,Iv.phi,Iv.Is,Iv.KnowAll,Region.binds,Iv.put_some,Iv.put_none,Kv] at hk; simp [Iv.wantD,hk,Iv.putD,Iv.depsO,Iv.depsL,Iv.phi,Iv.Is,Iv.KnowAll,Region.binds,Iv.put_some,Iv.put_none,Kv]):p:=h
def aI (h:p:=by simpa using hlt):p:=h
def bW (h:p:=by and_intros <;> first|rfl|simp only [getT,Ij,Cp,Fi]):p:=h
def aJ (h:p:=by simpa using h):p:=h
def aP (h:p:=by simp only [VRs] at h):p:=h
def bX (h:p:=by rw [k1,k2,k3,decide_eq_false b4]; exact Ob):p:=h
def aO (h:p:=by decide +kernel):p:=h
def aL (h:p:=by kernel_rfl):p:=h
def bK (h:p:=by simp only [tys,I7]):p:=h
def aT (h:p:=by simp only; omega):p:=h
def aH (h:p:=by decide):p:=h
def aR (h:p:=by simpa using h1):p:=h
def aN (h:p:=by simp at h):p:=h
def bE (h:p:=by simp only [execOp,e]):p:=h
def dT (h:p:=by rw [<- mh,Nat.gcd_comm x y]; exact (Nat.gcd_rec y x).symm ▸ Nat.gcd_comm y (x % y)):p:=h
def dU (h:p:=by simp only [evC,A2,Cg] at h; obtain ⟨_,rfl⟩:=h; exact hI):p:=h
def bY (h:p:=by rw [k1,k2,k3,decide_eq_true b4]; rfl):p:=h
def bF (h:p:=by simp only [PR] at hx):p:=h
def Zax (h:p:=by show m<=(st.S++_).length; rw [Cs]; exact Fb hI.le (Om _ _)):p:=h
def bG (h:p:=by simp only [PR] at h):p:=h
def aW (h:p:=by simpa using hj):p:=h
def Za01 (h:p:=by have:=t.b; simp only [Ch,Ia] at this; exact this.1):p:=h
def Za02 (h:p:=by and_intros <;> first|rfl|simp only [getT,Lf,Ij,Cp,Fi]):p:=h
def aX (h:p:=by simpa using h0):p:=h
def aY (h:p:=by simpa using b1):p:=h
def aZ (h:p:=by simpa using b2):p:=h
def cK (h:p:=by rw [<- fO]; simp [hu]):p:=h
def bL (h:p:=by simp only [PRs] at h):p:=h
def Za08 (h:p:=by show (st.S++_).take m=S0; rw [L1 hI.le]; exact hI.S):p:=h
def Za09 (h:p:=by show (p++[y.1]).length+v.length=W; simp only [Cs,Ck,Cu] at hpv ⊢; omega):p:=h
def bH (h:p:=by simp only [evC]):p:=h
def bC (h:p:=by simpa using b3):p:=h
def bD (h:p:=by simpa using b4):p:=h
def aM (h:p:=by grind):p:=h
def cQ (h:p:=by rw [<- fO]; simp [ht]):p:=h
def dV (h:p:=by simp only [nth,A2] at h; subst h; rfl):p:=h
def dW (h:p:=by simp [execOp,e,resolve,hb,ha,invoke,builtin,ma,h1]):p:=h
def cM (h:p:=by rw [Ix]; omega):p:=h
def cR (h:p:=by rw [List.length_set]; exact h.len):p:=h
def bM (h:p:=by simp only [VR]):p:=h
def Za0m (h:p:=by rw [js,hlp]; simp only [Fa,Cr,Cw,Fy]):p:=h
def Za0n (h:p:=by intro r hr; simp only [Cn,Ol,or_false] at hr; subst hr; decide):p:=h
def Za0o (h:p:=by have:=t.b; simp only [Ch,Ia] at this; exact this.2):p:=h
def Za0p (h:p:=by simpa only [Fa,Cr,Cw,Fy] using eh):p:=h
def dG (h:p:=by unfold A6; rw [ho]; simpa using x):p:=h
def bN (h:p:=by simpa using hz):p:=h
def Za0s (h:p:=by rw [<- hg,Nat.gcd_comm x y]; exact (Nat.gcd_rec y x).symm ▸ Nat.gcd_comm y (x % y)):p:=h
def aV (h:p:=by cases h):p:=h
def Za0v (h:p:=by rw [List.flatten_append]; exact Hn (PRs.stays ah _ _ il) (PRs.stays ah _ _ az)):p:=h
def bZ (h:p:=by simp [Op.operands]):p:=h
def cA (h:p:=by rw [k1,k2,k3]; rfl):p:=h
def bP (h:p:=by simpa using hl):p:=h
def cU (h:p:=by have:=ar.iq; omega):p:=h
def bJ (h:p:=by simp [hx]):p:=h
def bQ (h:p:=by simp [nth] at h):p:=h
def Za13 (h:p:=by rw [<- List.map_take,<- List.map_drop]; exact G3 _):p:=h
def bR (h:p:=by simpa using h2):p:=h
def cB (h:p:=by simp at hi; omega):p:=h
def Za16 (h:p:=by unfold fndF okF; rw [if_neg (by simp <;> omega)]):p:=h
def dH (h:p:=by simp only [Fi,VRs]):p:=h
def Za18 (h:p:=by intro m' em; simp only [A2] at em; subst em; exact hc):p:=h
def Za19 (h:p:=by rw [Cn]; exact ⟨fun h=>h.resolve_left fun y=>e y.symm,.inr⟩):p:=h
def Za1a (h:p:=by rw [Ae] at hx; exact Ik hx):p:=h
def Za1b (h:p:=by unfold Lf; exact Gm (sz:=4) (f:=fun q=>ceW (qF.rat q)) (fun _=>rfl) l):p:=h
def cC (h:p:=by rw [k1,k2]; rfl):p:=h
def bT (h:p:=by simp only [VRs]):p:=h
def Za1e (h:p:=by simp only [execOp,e,Fj,g1,Ev,It]):p:=h
def Za1f (h:p:=by simp only [Gi,okZ,hla,hlb]; simp [cq]; omega):p:=h
def Za1g (h:p:=by have he:nth ([]:List Ent) id=some e':=he; cases id <;> cases he):p:=h
def bU (h:p:=by simpa using he):p:=h
def cD (h:p:=by simpa using hneg):p:=h
def Za1j (h:p:=by intro f args S tk n r he; simp [evF] at he):p:=h
def cV (h:p:=by rw [hsz]; exact b8):p:=h
def bO (h:p:=by simp [wrS]):p:=h
def cE (h:p:=by simpa using hm):p:=h
def cF (h:p:=by simpa using hd):p:=h
def cG (h:p:=by rw [k1]; rfl):p:=h
def cH (h:p:=by simpa using ca):p:=h
def cI (h:p:=by simp [wrT,ak]):p:=h
def dI (h:p:=by simp only [sum]; grind):p:=h
def Za1x (h:p:=by simp only [Cx.tok,if_true]; exact hp):p:=h
def cW (h:p:=by simp at h ⊢; omega):p:=h
def Za1z (h:p:=by unfold sysE; rw [if_neg ve,hE0]; rfl):p:=h
def dX (h:p:=by have:=(hds r hr).2; omega):p:=h
def dY (h:p:=by rw [hψ]; simp only; omega):p:=h
def Za22 (h:p:=by intro hh; rw [hh] at g3; simp at g3):p:=h
def cN (h:p:=by rw [D3,hc]; rfl):p:=h
def Za25 (h:p:=by simp only [gt_iff_lt] at h; rw [h3] at h; simp at h):p:=h
def Za26 (h:p:=by simp only [Fq,decide_eq_decide]; omega):p:=h
def dZ (h:p:=by rw [u0] at hw; simp at hw):p:=h
def eA (h:p:=by simpa only [evC] using he):p:=h
def bV (h:p:=by simp [hq]):p:=h
def Za2b (h:p:=by rw [e] at hq'; simp at hq'; omega):p:=h
def Za2c (h:p:=by rw [kr]; exact Dh.times _ _ ou ow):p:=h
def Za2d (h:p:=by rw [fi]; exact Dh.minus _ _ oz oy):p:=h
def Za2e (h:p:=by rw [List.length_set,List.length_set]; exact h.len):p:=h
def cX (h:p:=by simpa using hx):p:=h
def eD (h:p:=by have:=hds1 r hr; omega):p:=h
def Za2h (h:p:=by rw [hW8]; exact ⟨rfl,rfl,rfl,World.putObj_size⟩):p:=h
def Za2i (h:p:=by unfold A6 at hd; rw [ho] at hd; simpa using hd):p:=h
def eE (h:p:=by rw [ak] at hb; cases hb):p:=h
def dJ (h:p:=by simp [execOp,e,hb]):p:=h
def cY (h:p:=by simp [evC] at h):p:=h
def Za2m (h:p:=by have h:=g9.T.costE; rw [ba.2.2] at h; exact h):p:=h
def Za2p (h:p:=by rw [Ao,g9.len,ae.len]; exact Cc _):p:=h
def Za2q (h:p:=by rw [hR]; unfold ansC; rw [iM]; rfl):p:=h
def Za2r (h:p:=by rw [hn,if_neg (by simp only [h1,h2]; simp)]):p:=h
def eF (h:p:=by unfold maxLen; omega):p:=h
def cZ (h:p:=by simpa using hf):p:=h
def dK (h:p:=by rw [hx.1]; simp):p:=h
def eG (h:p:=by simp only [VRs] at hx):p:=h
def eH (h:p:=by simp [Cx.alone] at hi):p:=h
def cO (h:p:=by assumption):p:=h
def dA (h:p:=by simpa using ao):p:=h
def dB (h:p:=by rw [D3,h]; rfl):p:=h
def Za30 (h:p:=by simp [PRs,PR,S8]):p:=h
def dC (h:p:=by simpa using bz):p:=h
def Za33 (h:p:=by rw [j8]; omega):p:=h
def Za34 (h:p:=by rw [b7 j h2.1,az j h2.1]; exact bc j h1 h2):p:=h
def Za36 (h:p:=by rw [k1.av]; exact gp x o hx):p:=h
def Za37 (h:p:=by simp only [Fi,Bf]):p:=h
def Za38 (h:p:=by rw [Fj,D1 (by simp)]; exact h1):p:=h
def eI (h:p:=by simpa [Ao] using hi):p:=h
def eJ (h:p:=by simp [conf,hwj,cg]):p:=h
def dL (h:p:=by simp [Ko]; omega):p:=h
def Za3c (h:p:=by simp only [VRs]; exact ⟨h1,h2,trivial⟩):p:=h
def Za3d (h:p:=by unfold topV; rw [F7,Dm]; rfl):p:=h
def Za3e (h:p:=by rw [HI.out.rest]; exact gT _ hb0):p:=h
def cJ (h:p:=by simp [h]):p:=h
def Za3h (h:p:=by simp [Cx.more,hr.S,hr.n]):p:=h
def Za3i (h:p:=by unfold topV; rw [Fo]; rfl):p:=h
def Za3l (h:p:=by show t1.rows.length+1<=1000000; omega):p:=h
def cP (h:p:=by rw [dd,x]):p:=h
def Za3n (h:p:=by rw [iR hbel (Ea hv)]; exact hv):p:=h
def Za3o (h:p:=by simp only [oneOf,VR]; exact ⟨_,rfl,h2⟩):p:=h
def eK (h:p:=by simpa using hs.h2):p:=h
def dM (h:p:=by simpa using hn):p:=h
def Za3r (h:p:=by rw [h2] at hk; cases id <;> cases hk):p:=h
def dN (h:p:=by rw [Ao]; omega):p:=h
def Za3t (h:p:=by unfold Lf; rw [Fq]; omega):p:=h
def Za3u (h:p:=by rw [setRow_other _ _ _ _ h]; exact hd):p:=h
def Za3v (h:p:=by simp [Cx.tok] at hi; simp [Hy]; omega):p:=h
def Za3w (h:p:=by simp [Op.operands,Call.operands,ak]):p:=h
def Za3x (h:p:=by have h:=jr; rw [ba.2.2] at h; exact h):p:=h
def dO (h:p:=by simpa using hu):p:=h
def Za3z (h:p:=by rw [Array.toList_map]; exact Lr hρ _):p:=h
def eM (h:p:=by simpa using hs.h):p:=h
def dD (h:p:=by simp [h.len]):p:=h
def eO (h:p:=by simp at h; omega):p:=h
def dP (h:p:=by simpa using g2):p:=h
def Za44 (h:p:=by unfold A6; rw [ho]; simpa using e):p:=h
def eP (h:p:=by rw [<- hnm]; simp):p:=h
def Za46 (h:p:=by rw [Oj]; omega):p:=h
def Za47 (h:p:=by rw [h.rows]; exact hi):p:=h
def eQ (h:p:=by simp [J7,e] at hm):p:=h
def eR (h:p:=by rw [hx.2]; simp):p:=h
def Za4a (h:p:=by rw [k1.av]; exact db o):p:=h
def Za4b (h:p:=by rw [hle.av]; exact h):p:=h
def eU (h:p:=by simp [over] at h):p:=h
def dE (h:p:=by simp [hy]):p:=h
def eV (h:p:=by simpa using h4):p:=h
def Za4f (h:p:=by simp [Cx.more,hr.n]):p:=h
def Za4g (h:p:=by cases t <;> simp [br]):p:=h
def Za4h (h:p:=by have:=gA.pos; omega):p:=h
def eW (h:p:=by simpa using ho):p:=h
def Za4j (h:p:=by rw [Aa ka]; exact ml):p:=h
def eX (h:p:=by simpa using a8):p:=h
def eY (h:p:=by simp [C0] at hi):p:=h
def Za4m (h:p:=by simp [hG]):p:=h
def eZ (h:p:=by split <;> omega):p:=h
def fA (h:p:=by simpa using hn0):p:=h
def fB (h:p:=by simp [Cq] at hi):p:=h
def fC (h:p:=by simpa using hs):p:=h
def Za4r (h:p:=by rw [e1]; exact hrun):p:=h
def Za4s (h:p:=by have:=cd.1; omega):p:=h
def Za4t (h:p:=by have:=g2.1; omega):p:=h
def Za4u (h:p:=by simp [Op.bytesLess]):p:=h
def Za4v (h:p:=by rw [Ae]; exact hi):p:=h
def Za4w (h:p:=by rw [Aj]; exact h.nb):p:=h
def fD (h:p:=by simpa using h3):p:=h
def fE (h:p:=by simp [wrS,ak]):p:=h
def fF (h:p:=by simpa using qd):p:=h
def fG (h:p:=by simpa using g1):p:=h
def fH (h:p:=by rw [hNn,hD,hg]):p:=h
def fI (h:p:=by simpa using ly):p:=h
def fJ (h:p:=by simpa using qp):p:=h
def fK (h:p:=by simpa using jf):p:=h
def Za55 (h:p:=by rw [hψ]; exact h1):p:=h
def fL (h:p:=by rw [d9]; simp):p:=h
def dR (h:p:=by simp [h1]):p:=h
def aS (h:p:=by rw [Ab aC]; omega):p:=h
def aU (h:p:=by rw [Ab aC]; rfl):p:=h
def Za5a (h:p:=by simp only [A2,Cg] at h; obtain ⟨rfl,rfl⟩:=h; exact ⟨rfl,Za33,oy⟩):p:=h
def dF (h:p:=by rw [Iq aA]; rfl):p:=h
def Za5c (h:p:=by simp only [A2,Cg] at h; obtain ⟨rfl,rfl⟩:=h; exact ⟨rfl,Za33,ol⟩):p:=h
def bS (h:p:=by rw [Ab aC]; simp):p:=h
def fM (h:p:=by rw [getD_set_ne false aA]; exact ht j hj):p:=h
def Za5f (h:p:=by rw [key j aA]; exact h.fr j h1 h2):p:=h
def Za5g (h:p:=by rw [Ad aE,b7 j h2.1,az j h2.1]; exact bc j h1 h2):p:=h
def Za5h (h:p:=by rw [a7]; first|rfl|exact A0 cU):p:=h
def Za5i (h:p:=by rw [Aa (key _ aA)]; exact h.E15):p:=h
def Za5j (h:p:=by simp only [first]; rw [if_neg aA,if_neg aA]):p:=h
def Za5k (h:p:=by rw [Aa (key _ aA)]; exact h.Z):p:=h
def Za5l (h:p:=by rw [Aa (hnm Sf.length (hoN 0 aA))]; exact Bz):p:=h
def Za5m (h:p:=by rw [Aa (hnm _ (mz _ aA aA))]; exact Ac hEf):p:=h
def Ya0 (h:p:=by
 subst hM;refine Af5 (P:=prog) (fun x st=>st.T.length=56/\(x.1.gcd x.2=g)/\(x.1<9223372036854775808)/\(x.2<9223372036854775808)/\getT st.T 0=.ref iq eq 0/\getT st.T 1=.int (M:Int)/\getT st.T 2=.int (D:Nat)/\getT st.T 6=.ref S.length k 0/\getT st.T 7=.int (x.1:Nat)/\getT st.T 8=.int (x.2:Nat)/\st.S=S++[⟨k,[.int 0,.int 0]⟩]/\st.tk=tk/\st.n=k+1) (fun x=>x.2) (fun x=>(frA r.1,QQ.flS S iq eq r.2,tk,k+1)) ((M:Int).natAbs,D) ?_ ?_;case refine_2=>exact ⟨rfl,fH,aA,aA,rfl,rfl,rfl,rfl,rfl,rfl,rfl,rfl,rfl⟩
 rintro ⟨x,y⟩ ⟨T,S',tk',n'⟩ ⟨hl,mh,hx,hy,e0,e1,e2,e6,e7,e8,eS,eT,eN⟩ IH;simp only at mh hx hy e0 e1 e2 e6 e7 e8 eS eT eN;subst eS eT eN;obtain ⟨g,hg,hT⟩:=Au hl;rw [hg] at e0 e1 e2 e6 e7 e8;subst hT;clear hg hl;by_cases h0:y=0
 ·subst h0;have c1:(((0:Nat):Int) != 0)=false:=rfl;rw [Sv] at mh;subst mh;by_cases h1:1<x
  ·rw [if_pos h1,if_pos h1] at ab;have c2:decide ((x:Int) > 1)=true:=aB
   have hz:¬ ((x:Int)=0):=aA
   have v1:=Dp (M:Int) x;have v2:=Dp (D:Int) x;have w5:Cf.wrap ((M:Int).tdiv (x:Int))=(M:Int).tdiv (x:Int):=Ab aC;have w6:Cf.wrap ((D:Int).tdiv (x:Int))=(D:Int).tdiv (x:Int):=Ab aC;by_cases b1:(M:Int).tdiv (x:Int)<=-2147483648
   ·have k1:decide ((M:Int).tdiv (x:Int)<=-2147483648)=true:=aY
    rw [if_pos cG] at ab;rw [ab];simp (maxSteps:=10^6)+contextual(disch:=try exact dqd)only[evs0,simprocAttr,Cd,Cb,Ce,results168,e0,e1,e2,e6,e7,e8,c1,c2,hz,w5,w6,bj,hE,hP,hT,hA,k1,frA,A4]
   have k1:decide ((M:Int).tdiv (x:Int)<=-2147483648)=false:=aY
   by_cases b2:(M:Int).tdiv (x:Int) >= 2147483648
   ·have k2:decide ((M:Int).tdiv (x:Int) >= 2147483648)=true:=aZ
    rw [if_pos cC] at ab;rw [ab];simp (maxSteps:=10^6)+contextual(disch:=try exact dqd)only[evs0,simprocAttr,Cd,Cb,Ce,results168,e0,e1,e2,e6,e7,e8,c1,c2,hz,w5,w6,bj,hE,hP,hT,hA,k1,k2,frA,A4]
   have k2:decide ((M:Int).tdiv (x:Int) >= 2147483648)=false:=aZ
   by_cases b3:(D:Int).tdiv (x:Int) >= 2147483648
   ·have k3:decide ((D:Int).tdiv (x:Int) >= 2147483648)=true:=bC
    rw [if_pos cA] at ab;rw [ab];simp (maxSteps:=10^6)+contextual(disch:=try exact dqd)only[evs0,simprocAttr,Cd,Cb,Ce,results168,e0,e1,e2,e6,e7,e8,c1,c2,hz,w5,w6,bj,hE,hP,hT,hA,k1,k2,k3,frA,A4]
   have k3:decide ((D:Int).tdiv (x:Int) >= 2147483648)=false:=bC
   by_cases b4:(D:Int).tdiv (x:Int)=0
   ·have k4:((D:Int).tdiv (x:Int) == 0)=true:=bD
    rw [if_pos bY] at ab;rw [ab];simp (maxSteps:=10^6)+contextual(disch:=try exact dqd)only[evs0,simprocAttr,Cd,Cb,Ce,results168,e0,e1,e2,e6,e7,e8,c1,c2,hz,w5,w6,bj,hE,hP,hT,hA,k1,k2,k3,k4,frA,A4]
   have k4:((D:Int).tdiv (x:Int) == 0)=false:=bD
   rw [if_neg bX] at ab;rw [ab];simp (maxSteps:=10^6)+contextual(disch:=try exact dqd)only[evs0,simprocAttr,Cd,Cb,Ce,results168,e0,e1,e2,e6,e7,e8,c1,c2,hz,w5,w6,bj,k1,k2,k3,k4,frA,E7]
  ·rw [if_neg h1,if_neg h1] at ab;have c2:decide ((x:Int) > 1)=false:=aB
   by_cases b1:(M:Int)<=-2147483648
   ·have k1:decide ((M:Int)<=-2147483648)=true:=aY
    rw [if_pos cG] at ab;rw [ab];simp (maxSteps:=10^6)+contextual(disch:=try exact dqd)only[evs0,simprocAttr,Cd,Cb,Ce,results168,e0,e1,e2,e6,e7,e8,c1,c2,bj,hE,hP,hT,hA,k1,frA,A4]
   have k1:decide ((M:Int)<=-2147483648)=false:=aY
   by_cases b2:(M:Int) >= 2147483648
   ·have k2:decide ((M:Int) >= 2147483648)=true:=aZ
    rw [if_pos cC] at ab;rw [ab];simp (maxSteps:=10^6)+contextual(disch:=try exact dqd)only[evs0,simprocAttr,Cd,Cb,Ce,results168,e0,e1,e2,e6,e7,e8,c1,c2,bj,hE,hP,hT,hA,k1,k2,frA,A4]
   have k2:decide ((M:Int) >= 2147483648)=false:=aZ
   by_cases b3:(D:Int) >= 2147483648
   ·have k3:decide ((D:Int) >= 2147483648)=true:=bC
    rw [if_pos cA] at ab;rw [ab];simp (maxSteps:=10^6)+contextual(disch:=try exact dqd)only[evs0,simprocAttr,Cd,Cb,Ce,results168,e0,e1,e2,e6,e7,e8,c1,c2,bj,hE,hP,hT,hA,k1,k2,k3,frA,A4]
   have k3:decide ((D:Int) >= 2147483648)=false:=bC
   by_cases b4:(D:Int)=0
   ·have k4:((D:Int) == 0)=true:=bD
    rw [if_pos bY] at ab;rw [ab];simp (maxSteps:=10^6)+contextual(disch:=try exact dqd)only[evs0,simprocAttr,Cd,Cb,Ce,results168,e0,e1,e2,e6,e7,e8,c1,c2,bj,hE,hP,hT,hA,k1,k2,k3,k4,frA,A4]
   have k4:((D:Int) == 0)=false:=bD
   rw [if_neg bX] at ab;rw [ab];simp (maxSteps:=10^6)+contextual(disch:=try exact dqd)only[evs0,simprocAttr,Cd,Cb,Ce,results168,e0,e1,e2,e6,e7,e8,c1,c2,bj,k1,k2,k3,k4,frA,E7]
 ·have c1:((y:Int) != 0)=true:=aX
  have hz:¬ ((y:Int)=0):=aA
  have hm:(x:Int).tmod (y:Int)=((x % y:Nat):Int):=dF
  simp (maxSteps:=10^6)+contextual(disch:=try exact dqd)only[evs0,simprocAttr,Cd,Cb,Ce,results168,e0,e1,e2,e6,e7,e8,c1,hz,hm];have hlt:=gT x (by omega:0<y);exact IH (y,x % y) _ aF ⟨rfl,dT,hy,aE,bA⟩):p:=h
def Ya1 (h:p:=by
 by_cases b3:(D:Int).tdiv (x:Int) >= 2147483648
 ·have k3:decide ((D:Int).tdiv (x:Int) >= 2147483648)=true:=bC
  rw [if_pos cA] at ab;rw [ab];simp (maxSteps:=10^6)+contextual(disch:=try exact dqd)only[evs0,simprocAttr,Cd,Cb,Ce,results168,e0,e1,e2,e6,e7,e8,c1,c2,hz,w5,w6,bj,hE,hP,hT,hA,k1,k2,k3,frA,A4]
 have k3:decide ((D:Int).tdiv (x:Int) >= 2147483648)=false:=bC
 by_cases b4:(D:Int).tdiv (x:Int)=0
 ·have k4:((D:Int).tdiv (x:Int) == 0)=true:=bD
  rw [if_pos bY] at ab;rw [ab];simp (maxSteps:=10^6)+contextual(disch:=try exact dqd)only[evs0,simprocAttr,Cd,Cb,Ce,results168,e0,e1,e2,e6,e7,e8,c1,c2,hz,w5,w6,bj,hE,hP,hT,hA,k1,k2,k3,k4,frA,A4]
 have k4:((D:Int).tdiv (x:Int) == 0)=false:=bD
 rw [if_neg bX] at ab;rw [ab];simp (maxSteps:=10^6)+contextual(disch:=try exact dqd)only[evs0,simprocAttr,Cd,Cb,Ce,results168,e0,e1,e2,e6,e7,e8,c1,c2,hz,w5,w6,bj,k1,k2,k3,k4,frA,E7]):p:=h
def Ya2 (h:p:=by
 by_cases b3:(D:Int) >= 2147483648
 ·have k3:decide ((D:Int) >= 2147483648)=true:=bC
  rw [if_pos cA] at ab;rw [ab];simp (maxSteps:=10^6)+contextual(disch:=try exact dqd)only[evs0,simprocAttr,Cd,Cb,Ce,results168,e0,e1,e2,e6,e7,e8,c1,c2,bj,hE,hP,hT,hA,k1,k2,k3,frA,A4]
 have k3:decide ((D:Int) >= 2147483648)=false:=bC
 by_cases b4:(D:Int)=0
 ·have k4:((D:Int) == 0)=true:=bD
  rw [if_pos bY] at ab;rw [ab];simp (maxSteps:=10^6)+contextual(disch:=try exact dqd)only[evs0,simprocAttr,Cd,Cb,Ce,results168,e0,e1,e2,e6,e7,e8,c1,c2,bj,hE,hP,hT,hA,k1,k2,k3,k4,frA,A4]
 have k4:((D:Int) == 0)=false:=bD
 rw [if_neg bX] at ab;rw [ab];simp (maxSteps:=10^6)+contextual(disch:=try exact dqd)only[evs0,simprocAttr,Cd,Cb,Ce,results168,e0,e1,e2,e6,e7,e8,c1,c2,bj,k1,k2,k3,k4,frA,E7]):p:=h
def Ya3 (h:p:=by
 simp (maxSteps:=10^6)+contextual(disch:=try exact dqd)only[ev0,simprocAttr,Cd,Cb,Ce,results107,d0',q0];refine loop1 (P:=prog) (fun x st=>st.T.length=25/\(x.1<=n.natAbs)/\(x.2.1++dig x.1=dig n.natAbs)/\(Bd st.tk x.2.2 1=true)/\getT st.T 0=.int n/\getT st.T 2=.ref 0 0 0/\getT st.T 3=.prim (.int .u64 (x.1:Nat))/\getT st.T 4=.frz (x.2.1.map digC) x.2.2/\st.S=[⟨0,[.bool false,.frz [] .nilc]⟩]) (fun x=>x.1) (fun x=>zA n) (n.natAbs,[],.nilc) ?_ ?_;case refine_2=>exact ⟨rfl,Cc _,rfl,rfl,rfl,rfl,rfl,rfl,rfl⟩
 rintro ⟨u,out,c⟩ ⟨T,S',tk',n'⟩ ⟨hl,hu,he,hok,e0,e2,e3,e4,eS⟩ IH;simp only at hu he hok e0 e2 e3 e4 eS;subst eS;obtain ⟨g,hg,hT⟩:=Au hl;rw [hg] at e0 e2 e3 e4;subst hT;clear hg hl;have hlen:=Aow he hN;have hr:=G2 out;have c8:=Dj hok;by_cases h0:u=0
 ·have d1:decide ((u:Int) > 0)=false:=aB
  subst h0;have hd:=Aj9 he;subst hd;cases d2:decide (n<0) with
  | true =>
   simp (maxSteps:=10^6)+contextual(disch:=try exact dqd)only[ev0,simprocAttr,Cd,Cb,Ce,results107,e0,e2,e3,e4,d1,d2];simp [zA,bigA,digA,d2]
  | false =>
   simp (maxSteps:=10^6)+contextual(disch:=try exact dqd)only[ev0,simprocAttr,Cd,Cb,Ce,results107,e0,e2,e3,e4,d1,d2];simp [zA,bigA,digA,d2]
 ·have d1:decide ((u:Int) > 0)=true:=aB
  have lp:¬ ((10000:Int)=0):=aA
  have b8:(out.map digC).length+1<=1048576:=aB
  have q1:(u:Int).tmod 10000=((u % 10000:Nat):Int):=by
   rw [Iq aA]; omega
  have q2:Cf.wrap ((u % 10000:Nat):Int)=((u % 10000:Nat):Int):=Ab aC;have q3:Sp.wrap ((u:Int).tdiv 10000)=((u / 10000:Nat):Int):=by
   rw [Fp aA,X9 aA aA]; omega
  have hs:=Aka he h0;simp (maxSteps:=10^6)+contextual(disch:=try exact dqd)only[ev0,simprocAttr,Cd,Cb,Ce,results107,e0,e2,e3,e4,d1,lp,q1,q2,q3,hr];exact IH (u / 10000,out++[((u % 10000:Nat):Int)],Bg tk' c 1) _ aF ⟨rfl,aE,hs,c8,aD,aD,aD,aD,aD⟩):p:=h
def Ya4 (h:p:=by
 obtain ⟨y,hy⟩:∃ y,y=qF.minus a0 r0:=⟨_,rfl⟩;have oy:qF.ok y.1:=by rw [hy]; exact Dh.minus _ _ oa0 or0
 rw [ah,<- hy] at js;have qg:Cf.wrap ((p.length:Int)+1)=(((p++[y.1]).length:Nat):Int):=bS
 have hfa:=ae.T.fa;have jr:=ae.T.costE;have qy:entAt S' (S.length+2) I.ec=some (flat ga0 (p++a0 :: v)):=Za3x
 have ma:=Aw (ce:=ga0) ga1 (Ek (p:=p) (u:=v) (x:=a0));have hrt:=Aw (ce:=ga0) ga1 bw;have du:=ae.E16;have dc:=Mg S' tk' n' iq eq _ a0 r0 oa0 or0 hfa;have hg1:=El (c:=y.2) hfa;rw [<- hy] at dc;obtain ⟨S1a,ko⟩:∃ S1a,S1a=flS S' iq eq y.2:=⟨_,rfl⟩;have g9:=ae.flag (S':=flS S' iq eq y.2) (fun j hj=>ga6 hj) Bj hfa.fS;rw [<- ko] at dc hg1 g9;have q7:entAt S1a (S.length+2) I.ec=some (flat ga0 (p++a0 :: v)):=Za2m
 have ho:=Bc (ce:=ga0) ga1 (l:=p++a0 :: v) (k:=p.length) (q':=y.1) (by simp);rw [Gu] at ho;have eh:=g9.cost (k':=p++y.1 :: v) (by simp) (fun q hq=>by
  rcases C4.1 hq with h|h
  ·exact ae.T.okc q cJ
  ·rcases Cn.1 h with rfl|h
   ·exact oy
   ·exact ae.T.okc q cJ)
 rw [ba.2.2] at eh;have jx:∀ x,Oc S'.length (put S1a (S.length+2) x)=put S1a (S.length+2) x:=fun x=>Fc Za2p;simp (maxSteps:=10^6)+contextual(disch:=try exact dqd)only[evg1,simprocAttr,Cd,Cb,Ce,ga29,e0,e1,e2,e7,e10,e11,e12,e14,e15,e16,e18,e19,e83,e84,e85,e194,e195,c2,c6,c7,c7b,qg,qx,jt,qy,ma,hrt,du,yo,dc,hg1,q7,ho,jx,Eu,xfs,puQ,tkQ,ga1,ga5];exact IH (put S1a (S.length+2) ⟨I.ec,flat ga0 (p++y.1 :: v)⟩,n'+ua4,p++[y.1],v,Cl fq y.2) _ aF ⟨rfl,Za0m,Za09,Za0p,bW⟩):p:=h
def Ya5 (h:p:=by
 have c1:((y:Int) != 0)=true:=aX
 have hz:¬ ((y:Int)=0):=aA
 have hm:(x:Int).tmod (y:Int)=((x % y:Nat):Int):=dF
 simp (maxSteps:=10^6)+contextual(disch:=try exact dqd)only[evs0,simprocAttr,Cd,Cb,Ce,results168,e0,e1,e2,e6,e7,e8,c1,hz,hm];have hlt:=gT x (by omega:0<y);exact IH (y,x % y) _ aF ⟨rfl,dT,hy,aE,bA⟩):p:=h
def Ya6 (h:p:=by
 subst eS;obtain ⟨g,hg,hT⟩:=Au hl;rw [hg] at e33 e34 e35;subst hT;clear hg hl;by_cases hlt:i<l.length
 ·have d1:decide ((i:Int)<(l.length:Int))=true:=aI
  obtain ⟨x,hx⟩:=Af hlt;have hx':=Gj hx;have hw:=Bb (i:=i) aA;rw [Ay hx] at hn;simp only [allD] at hn;simp (maxSteps:=10^6)+contextual(disch:=try exact dqd)only[ev0,simprocAttr,Cd,Cb,Ce,results170,e33,e34,e35,d1,digA,hx',hw];refine ⟨fun h1=>?_,fun h1=>⟨fun h2=>?_,fun h2=>?_⟩⟩
  ·rw [hn,if_pos dR]
  ·rw [hn,if_pos (by simp only [h1,h2]; rfl)]
  ·exact IH (i+1) _ aF ⟨rfl,hlt,Za2r,aD,aD,aD,aD⟩
 ·have d1:decide ((i:Int)<(l.length:Int))=false:=aI
  have he:i=l.length:=aA
  rw [he,Fo] at hn;simp (maxSteps:=10^6)+contextual(disch:=try exact dqd)only[ev0,simprocAttr,Cd,Cb,Ce,results170,e33,e34,e35,d1,digA];exact hn.symm):p:=h
def Ya7 (h:p:=by
 have e:k=ops.size:=by
  rcases F3 k ops.size with hlt|f9
  ·have:k ∈ Region.ready .any ops listed:=by
    apply mem_ready.2;have ho:ops[k]?=some (ops[k]'hlt):=Cy hlt;refine ⟨?_,_,ho,fun e he hb=>?_⟩
    ·have h1:¬ listed.getD k false=true:=fun x=>absurd ((hk k).1 x) aA;have hkl:k<listed.size:=aA
     simpa [Ip,hkl] using h1
    ·have hf:=Mm ag ho;unfold Nx at hf;simp only [Ch] at hf;have da:e.on ∈ depsOf ops k:=by
      unfold depsOf; rw [ho];exact F9.2 ⟨e,List.mem_filter.2 ⟨bU,hb⟩,rfl⟩
     have:=Cv.1 hf.1.1.1.2 _ da;simp only [decide_eq_true_eq] at this;exact (hk _).2 this
   rw [h0] at this; simp at this
  ·omega
 rw [e,I4] at h;exact h):p:=h
def Ya8 (h:p:=by
 have d1:decide ((i:Int)<(l.length:Int))=false:=aI
 have fh:i=l.length:=aA
 subst fh;rw [Fo] at hE;have hE0:D7 l=0:=hE;have hV:=fun S tk k=>Ey S tk k l (Ky hE0) aA;have hs:sysE l=if 24<(B4 l).length then 7 else 0:=Za1z
 rw [hs];simp only [Ap,Ar] at hV;by_cases zk:24<(B4 l).length
 ·have d2:decide (((B4 l).length:Int) > 24)=true:=aB
  simp (maxSteps:=10^6)+contextual(disch:=try exact dqd)only[ev1,simprocAttr,Cd,Cb,Ce,results21,e0,e9,e10,e11,d1,Ap,hV,d2];rw [if_pos zk]
 ·have d2:decide (((B4 l).length:Int) > 24)=false:=aB
  simp (maxSteps:=10^6)+contextual(disch:=try exact dqd)only[ev1,simprocAttr,Cd,Cb,Ce,results21,e0,e9,e10,e11,d1,Ap,hV,d2];rw [if_neg zk]):p:=h
def Ya9 (h:p:=by
 have hsz:(ini.toArray.push o).size=ini.toArray.size+1:=by simp
 rw [hsz];have zy:Sc (ini.toArray.size+1) false=(Sc ini.toArray.size false).push false:=by
  rw [Array.replicate_succ]
 rw [zy];refine We hg (fun j hj=>?_) (fun e he=>?_) (fun i o' dx=>?_) _ _ _ _ (by simp) (fun j hj=>?_) hw
 ·have:=hre j aW;rw [ng]; simpa using this
 ·have:=hla e (by rw [ng] at he; simpa using he);simpa using this
 ·have a8:=(Cj.1 dx).1;have:=hde i eX;rw [dx] at this;refine ⟨fun e he=>this.1 e he,fun g w hgw=>?_⟩;have h3:=this.2;simp only [hgw] at h3;simpa using h3
 ·rw [Et,Array.getElem?_replicate] at hj;split at hj <;> simp at hj):p:=h
def Yaa (h:p:=by
 by_cases hok:Db st a=true
 ·simp only [hok,if_true];constructor
  ·rintro ⟨n,h⟩;split at h
   ·rename_i s1 h1;have e:@evOs (gM (mdOf a)) P (Jl (mdOf a) P (cL P)) a a st=some s1:=B0 (G:=gM _) (Afp n).pure h1;rw [e];simp only [Ca] at h ⊢;obtain ⟨s,h1,h2⟩:=h;exact ⟨s,B0 (Afp n) h1,h2⟩
   ·simp at h
  ·intro h;split at h
   ·rename_i s1 h1;simp only [Ca] at h;obtain ⟨s,h2,h3⟩:=h;obtain ⟨n,hn⟩:=Abq h1;obtain ⟨m,hm⟩:=Abp h2;refine ⟨max n m,?_⟩;rw [B0 (G:=gM _) (Ec (show n<=max n m by omega)).pure hn];simp only [Ca];exact ⟨s,B0 (Ec (show m<=max n m by omega)) hm,h3⟩
   ·simp at h
 ·simp [hok]):p:=h
def Yab (h:p:=by
 have hpl:p.length=W:=gh;refine ae.T.add (b:=c+i) (f:=fb) ?_ ?_ hbF ?_ (by show rowZ.length=p.length; omega) orowZ (fun q hq=>?_) ?_ (ae.T.fa.of (jd iq aA aA (fun _=>⟨aA,aA⟩))) hAp Za3l (by show c+i<p.length; omega)
 ·rw [ba.1,ba.2.1,htF,wm]; simp only [ba.2.2,hpl,hre,gz,ez,intA]
 ·rw [hrF]; simp only [hpl]
 ·rw [Aa (jd (L+1) aA aA (fun h=>⟨by have:=ae.low.ir (hne h); omega,by have:=ae.low.ib (hne h); omega⟩))]; exact ae.E16
 ·have bj:=ae.T.ap.row q hq;have hq2:=ae.low.row q hq;exact jd q.1 aA (by have:=g8.2.2 q hq; omega) (fun _=>⟨bj.2.1,bj.2.2.2.1⟩)
 ·exact jd _ (by have:=ae.low.ic; omega) aA (fun _=>⟨ae.T.ap.rc.symm,ae.T.ap.cb⟩)):p:=h
def Yac (h:p:=by rw [if_pos cC] at ab;rw [ab];simp (maxSteps:=10^6)+contextual(disch:=try exact dqd)only[evs0,simprocAttr,Cd,Cb,Ce,results168,e0,e1,e2,e6,e7,e8,c1,c2,hz,w5,w6,bj,hE,hP,hT,hA,k1,k2,frA,A4]):p:=h
def Yad (h:p:=by rw [if_pos cG] at ab;rw [ab];simp (maxSteps:=10^6)+contextual(disch:=try exact dqd)only[evs0,simprocAttr,Cd,Cb,Ce,results168,e0,e1,e2,e6,e7,e8,c1,c2,hz,w5,w6,bj,hE,hP,hT,hA,k1,frA,A4]):p:=h
def Yae (h:p:=by rw [if_pos cC] at ab;rw [ab];simp (maxSteps:=10^6)+contextual(disch:=try exact dqd)only[evs0,simprocAttr,Cd,Cb,Ce,results168,e0,e1,e2,e6,e7,e8,c1,c2,bj,hE,hP,hT,hA,k1,k2,frA,A4]):p:=h
def Yaf (h:p:=by rw [if_pos cG] at ab;rw [ab];simp (maxSteps:=10^6)+contextual(disch:=try exact dqd)only[evs0,simprocAttr,Cd,Cb,Ce,results168,e0,e1,e2,e6,e7,e8,c1,c2,bj,hE,hP,hT,hA,k1,frA,A4]):p:=h
def Yag (h:p:=by
 unfold reachAt;generalize (De i).reverse=l;have key:∀ (l:List Nat) (s:List Nat),(∀ e ∈ s,listed.getD e false=true)->∀ e ∈ l.foldl (fun s j=>if s.contains j then depsOf ops j++s else s) s,listed.getD e false=true:=by
  intro l;induction l with
  | nil=>intro s hs; exact hs
  | cons j l ih =>
   intro s hs;simp only [Sa];apply ih;split
   ·rename_i hj;intro e he;rcases C4.1 he with h|h
    ·exact hc j (hs j aW) e h
    ·exact hs e h
   ·exact hs
 exact key l _ hd):p:=h
def Yah (h:p:=by
 have hw2:Cf.wrap (x+c+y)=x+c+y:=Ab aC;have yf:Cf.wrap ((x+c+y).tdiv 10000)=(x+c+y).tdiv 10000:=by
  rw [Fp aA]; exact Ab aC
 simp (maxSteps:=10^6)+contextual(disch:=try exact dqd)only[ev0,simprocAttr,Cd,Cb,Ce,results211,e1,e5,e6,e20,e21,e22,digA,d2,d3,hx',px,dt,hw1,hw2,yf,lp,hr];exact IH (i+1,zs++[(x+c+y).tmod 10000],(x+c+y).tdiv 10000,Bg tk' cp 1) _ aF ⟨rfl,aE,hI.step hx (by rw [hy]; rfl) hxk hyk rfl,c8,aD,aD,aD,aD,aD,aD,aD⟩):p:=h
def Yai (h:p:=by
 have yf:Cf.wrap ((x+c).tdiv 10000)=(x+c).tdiv 10000:=by
  rw [Fp aA]; exact Ab aC
 simp (maxSteps:=10^6)+contextual(disch:=try exact dqd)only[ev0,simprocAttr,Cd,Cb,Ce,results211,e1,e5,e6,e20,e21,e22,digA,d2,d3,hx',dt,hw1,yf,lp,hr];exact IH (i+1,zs++[(x+c).tmod 10000],(x+c).tdiv 10000,Bg tk' cp 1) _ aF ⟨rfl,aE,hI.step (y:=0) hx (by rw [Ae,C9 aE]; rfl) hxk aE aE,c8,aD,aD,aD,aD,aD,aD,aD⟩):p:=h
def Yaj (h:p:=by
 split at he
 ·rename_i r' ho;have:(if Hv c=true then runN (@runP _ P E ok (@evF _ P E ok k) k fn c) (args.map w2) else @runP _ P E ok (@evF _ P E ok k) k fn c (args.map w2))=some r':=by
   split at ho
   ·rename_i hn;rw [if_pos hn];unfold runN at ho ⊢;split at ho
    ·split at ho
     ·rename_i q1 q2;rw [one q1,one q2]; exact ho
     ·simp at ho
    ·exact one ho
   ·rename_i hn;rw [if_neg hn];exact one ho
  rw [this]; exact he
 ·simp at he):p:=h
def Yak (h:p:=by
 refine ⟨hl2.os,hl2.tape,hl2.output,hl2.size,rfl,Nat.le_succ_of_le hl2.n,fun x o hx hm=>?_,hl2.cell,hl2.keep,hl2.shape,fun id e' he hn=>?_,hl2.tok⟩
 ·rcases Xw hm with h|h
  ·exact hl2.mt x o hx h
  ·omega
 ·rcases J9 he with ⟨h1,h2⟩|⟨h1,h2⟩
  ·subst h2;have:=hl2.n;simp only at this hn;omega
  ·obtain ⟨w1,w2,w3,w4⟩:=hl2.ent id e' h2 hn;refine ⟨w1,w2,w3,?_⟩;simp only [Cx.rev];rw [if_neg aA];exact w4):p:=h
def Yal (h:p:=by simp only [m8,Ca,Cg] at bg;obtain ⟨cs,-,-,rfl⟩:=bg;simp only;rw [Ae,Ae,Ct aA]):p:=h
def Yam (h:p:=by obtain ⟨i,hi⟩:=List.getElem?_of_mem hp;have a8:=(Fu.1 hi).1;obtain ⟨r,hr⟩:=Af (show i<t.rows.length by rw [<- h.nids]; exact a8);exact A9 (h.rowE i p r Za4v hr)):p:=h
def Yan (h:p:=by
 cases c with
 | unk=>trivial
 | tight=>exact hc
 | nilc=>exact hc
 | nl=>exact hc
 | nn=>exact hc
 | tok id ep sz =>
  obtain ⟨k,h1,h2,h3⟩:=hc;obtain ⟨k',h4,h5,h6⟩:=h.tok id k h1;refine ⟨k',h4,aA,fun e=>?_⟩;rcases h3 aA with h7|⟨b,cs,t,ea,hp,hb,hl⟩
  ·exact .inl h7
  ·obtain ⟨cs',h8,h9⟩:=h.shape b cs t _ hb;exact .inr ⟨b,cs',t,ea,by rw [h6 aA,hp],h8,aA⟩):p:=h
def Yao (h:p:=by simp only [VR] at hx ⊢;obtain ⟨b,a,cap,h0,h0',h0'',hn,hx⟩:=hx;refine ⟨b,a,cap,h0,h0',h0'',Ff hn h.n,fun e' he md=>?_⟩;obtain ⟨e,h1,h2,h3⟩:=h.ent id e' he aA;obtain ⟨g1,cs,t,g2,g3⟩:=hx e h1 aA;obtain ⟨cs',g4,g5⟩:=h.shape b cs t _ g2;exact ⟨by rw [h3]; exact g1,cs',t,g4,aA⟩):p:=h
def Yap (h:p:=by unfold depsOf; rw [ho];exact F9.2 ⟨e,List.mem_filter.2 ⟨bU,hb⟩,rfl⟩):p:=h
def Yaq (h:p:=by subst fh;have hT:=fun c' S tk k=>Xt S tk k (zs++[c]) c' aB;rw [hI.done hle] at hT;simp only [Ij,Cp,Fi,digC,digA] at hT;simp (maxSteps:=10^6)+contextual(disch:=try exact dqd)only[ev0,simprocAttr,Cd,Cb,Ce,results211,e1,e5,e6,e20,e21,e22,digA,d2,hr,hT]):p:=h
def Yar (h:p:=by
 rename_i t' l' c' m8;simp only [m8,Ca,Prod.exists] at bg;obtain ⟨l0,sz0,cs0,-,hh⟩:=bg;split at hh
 ·simp only [Cg] at hh;obtain ⟨-,rfl⟩:=hh;rfl
 ·simp only [Cg] at hh;obtain ⟨-,rfl⟩:=hh;simp only;rw [Ae,Ae,Ct aA]):p:=h
def Yas (h:p:=by have hq:=hq'.h;have:=Q6 (P:=P) (fn:=fn) (st:=st) (k:=k) (id:=id) (ops:=ops.toArray) eM eK aJ;simp only [iL,hq] at this;exact this):p:=h
def Yat (h:p:=by refine ⟨rfl,rfl,rfl,rfl,rfl,rfl,rfl,by simp [Cx.tok],by simp [Cx.tok,Hy],fun i hi=>Za3v,fun i k hk=>?_⟩;have hlt:=Bh hk;refine ⟨k,?_,Cc _,fun _=>by simp [Hy]; omega⟩;simp only [Cx.tok];rw [Ae] at hk ⊢;rw [Ct hlt]; exact hk):p:=h
def Yau (h:p:=by
 obtain ⟨ex,s2⟩:=x;cases ex with
 | normal=>exact absurd h (hne s2)
 | exit id=>rfl
 | ret=>rfl):p:=h
def Yav (h:p:=by
 obtain ⟨h0,o,ho,hd⟩:=B2 hi;have h1:=Dd h0;have nq:k<=i:=by
  rcases F3 i k with h|h
  ·rw [(hk i).2 h] at h1; simp at h1
  ·exact h
 have:=Ps ag (closed k listed hk l7) hi aA;rcases F3 k i with h|h
 ·exact absurd ((hk k).1 (this k h)) aA
 ·omega):p:=h
def Yaw (h:p:=by rw [cq] at hx;simp only [fX,O3] at hx;rw [List.getElem?_set_ne (fun h=>fi (by rw [cq,h]))] at hx;exact hx):p:=h
def Yax (h:p:=by unfold Oper.wp;rw [hrun];refine iU hC ?_;rintro e' w' ⟨v,C',rfl,rfl,k1,k2,k3,k4,k5,k6⟩;exact hn v C' k1 k2 k3 k4 k5 k6):p:=h
def Yay (h:p:=by have hjk:=(hk j).1 hj;have ho:ops[j]?=some (ops[j]' aA):=Cy aA;have hf:=Mm ag ho;unfold Nx at hf;simp only [Ch] at hf;have:=Cv.1 hf.1.1.1.2 e he;simp only [decide_eq_true_eq] at this;exact (hk e).2 aA):p:=h
def Yaz (h:p:=by exact Qf rfl (Ar4 S l vars fl k iq eq c W nz z.1 ⟨hl,lq,hv,hc,d6,mc,sn,t8⟩ oz Φ i a8 r hr sl sf t1 I cp tk' ez hcl hre gz hok ba g8 L m0 nu u hU ou SX nx _ fc hR back _ rfl rfl rfl rfl rfl rfl rfl rfl rfl rfl rfl h18 rfl rfl rfl rfl rfl rfl rfl)):p:=h
def Ya00 (h:p:=by
 split at he
 ·rename_i hok;simp only [hok,if_true];split at he
  ·rename_i s1 h1;rw [B0 (G:=gM _) h.pure h1];simp only [Ca] at he ⊢;obtain ⟨x,h1,h2⟩:=he;exact ⟨x,B0 h h1,h2⟩
  ·simp at he
 ·simp at he):p:=h
def Ya01 (h:p:=by
 have e:ops.size - k=0:=aA
 rw [e] at h;refine ⟨?_,h⟩;apply List.eq_nil_iff_forall_not_mem.2;intro i hi;have nq:=rdy k listed hk l7 hm hl i hi;obtain ⟨_,o,ho,_⟩:=B2 hi;have:=(Cj.1 ho).1;omega):p:=h
def Ya02 (h:p:=by
 have f9:=grownCap_ge w 1 0 3;refine ⟨_,rfl,Ahe (zs:=[x]) hbase (An w.drew _) f9 (grownCap_le_maxLen w 1 0 _ aA) ?_ ?_,((C5 _ _).drew).alloc hbase _⟩
 ·rw [np]; simp [size_zeroCells,a0d]; omega
 ·simp):p:=h
def Ya03 (h:p:=by obtain ⟨h0,o,ho,hd⟩:=mem_ready.1 h;refine ⟨h0,o,ho,fun e he=>?_⟩;unfold depsOf at he;rw [ho] at he;simp only [F9,List.mem_filter] at he;obtain ⟨x,⟨hx,hb⟩,rfl⟩:=he;exact hd x cX hb):p:=h
def Ya04 (h:p:=by simp (maxSteps:=10^6)+contextual(disch:=try exact dqd)only[ev1,simprocAttr,Cd,Cb,Ce,results21,e0,e9,e10,e11,d1,Ap,hx',hC,dt,h0];rw [h0,if_pos rfl] at hE;unfold sysE;rw [if_neg ve,hE,if_pos h0]):p:=h
def Ya05 (h:p:=by
 cases hp:ops[j]? with
 | none=>rw [hp] at hwj; simp at hwj
 | some p =>
  rw [hp] at hwj;refine confl j p hp ?_ ?_ hne
  ·rcases di with di|di <;> simp [conf,hwj,di]
  ·rcases di with di|di <;> simp [conf,hwj,di]):p:=h
def Ya06 (h:p:=by exact IH (put S3 S.length ⟨k,ga0 y.1⟩,n2+1+ua4+ua3,P++[r0],U,some (P.length,y.1),Cl fq (Cl y.2 d.2)) _ aF ⟨rfl,gd,i7,hTn,⟨_,Ai aE,ga1 _,fun bi' q h=>Za5a⟩,dN,fun j h1 h2=>Za5g,bA⟩):p:=h
def Ya07 (h:p:=by
 refine ⟨rfl,rfl,by simp,fun r h=>aV,fun r h=>aV,fun q h=>?_,fun i h=>aN,fun j=>?_,fun i h=>aN,rfl⟩
 ·rw [(Im.1 h).2]; exact w.1
 ·rw [Ah0 w.2];split
  ·show (0:Rat)=- 0;grind
  ·rfl):p:=h
def Ya08 (h:p:=by simp [Et,Array.getElem?_setIfInBounds_ne hne]):p:=h
def Ya09 (h:p:=by rw [hc] at hC;simp only [digA] at hC hM;simp (maxSteps:=10^6)+contextual(disch:=try exact dqd)only[ev1,simprocAttr,Cd,Cb,Ce,results206,iq1,iq2,iq3,iq4,iq5,zA,bigA,digA,d1,hC,hM]):p:=h
def Ya0a (h:p:=by simp only [VR] at hx ⊢;obtain ⟨b,h0,hn,hx⟩:=hx;refine ⟨b,h0,Ff hn h.n,fun e' he md=>?_⟩;obtain ⟨e,h1,h2,h3⟩:=h.ent id e' he aA;rw [h3]; exact hx e h1 aA):p:=h
def Ya0b (h:p:=by
 rcases hc with hc|⟨cs,t,ha,hp,hb,hl⟩
 ·exact .inl hc
 ·exact .inr ⟨b,cs,t,ha,Za1x,hb,hl⟩):p:=h
def Ya0c (h:p:=by have:=hle.trans (Le.of_below (C:=C1) hbel);rw [show ({ C1.hid arr t with av:=C.av } : Cx)=C1.at (C1.w.alloc (.cells arr t)) from by unfold Cx.hid Cx.at; rw [hle.av]];exact this):p:=h
def Ya0d (h:p:=by
 split at he
 ·rename_i r' s1 ho;rw [out ho];exact he
 ·simp at he):p:=h
def Ya0e (h:p:=by
 rcases Cn.1 h with rfl|h
 ·exact hs.1
 ·exact ih.1 q h):p:=h
def Ya0f (h:p:=by
 have d0:decide ((l.length:Int) > 64)=true:=aB
 simp (maxSteps:=10^6)+contextual(disch:=try exact dqd)only[ev1,simprocAttr,Cd,Cb,Ce,results21,Ap,d0];simp [sysE,ve]):p:=h
def Ya0g (h:p:=by simp (maxSteps:=10^6)+contextual(disch:=try exact dqd)only[ev1,simprocAttr,Cd,Cb,Ce,results207,ratA,digA,ph,pm,a0h,cj,a7,hD,hO,cd,Fs,Fk]):p:=h
def Ya0h (h:p:=by simp (maxSteps:=10^6)+contextual(disch:=try exact dqd)only[ev1,simprocAttr,Cd,Cb,Ce,results18,e0,e1,e7,e8,e27,e28,e29,dp,Ag,Option.isSome,strO,yj,yk,hB,t7]):p:=h
def Ya0i (h:p:=by
 have h3:=hD.t2 t fun j hj=>ht j ((am j).2 (.inr hj));cases dd:o.dst with
 | none=>simp only [putT]; exact h3
 | some d =>
  simp only [putT];rw [Bx (fun x=>hne cP)];exact h3):p:=h
def Ya0j (h:p:=by unfold apO;rw [h]; simp only [hl];rw [if_pos ⟨aA,by simp [roomy]⟩];simp only [apO2,hE];rw [if_pos ⟨trivial,h0⟩];rw [if_pos ⟨aA,by simpa [roomy] using h1⟩]):p:=h
def Ya0k (h:p:=by exact IH (S3,n2+1+ua4+ua3,P++[r0],U,some (bi,least),Cl fq (Cl y.2 d.2)) _ aF ⟨rfl,gd,i7,te,⟨_,Za4j,ga1 _,fun bi' q h=>Za5c⟩,aE,fun j h1 h2=>Za34,bA⟩):p:=h
def Ya0l (h:p:=by rw [F9] at hc;obtain ⟨c',b9,rfl⟩:=hc;rw [fN] at b9;obtain ⟨r,hr,b9⟩:=b9;exact Cv.1 (Cv.1 hp r hr) c' b9):p:=h
def Ya0m (h:p:=by
 simp only [Instr.indexAt,asIntOf,Fj,It,Ev,Bk he];have:(0:Int)<=(k:Int)/\(k:Int)<(n:Int):=aA
 simp [O5,this,Er hs,Du]):p:=h
def Ya0n (h:p:=by refine (G8 hc ig ho fun u C2 k1 k2 k3 k4 k5 k6=>?_).1;simp only [A2] at h2;subst h2;exact hQ _ C2 (hle.trans k1) (ig.put k1 k2 k3 k4 k5 k6 hT)):p:=h
def Ya0o (h:p:=by
 by_cases h:c
 ·simp [h]; intro h'; cases h'
 ·simp [h]; rfl):p:=h
def Ya0p (h:p:=by
 by_cases h:c
 ·simp [h]; rfl
 ·simp [h]; intro h'; cases h'):p:=h
def Ya0q (h:p:=by simp only [A2] at h; subst h;refine .mk ?_;rw [Fj,D1 (by simp)];simp only [Ev,binOp,Fj,N6 he,It]):p:=h
def Ya0r (h:p:=by simp (maxSteps:=10^6)+contextual(disch:=try exact dqd)only[ev1,simprocAttr,Cd,Cb,Ce,results197,ratA,digA,hA,hB,hK,hO1,hO2,po,hO4,fk,au,hS,hM]):p:=h
def Ya0s (h:p:=by
 simp only [Instr.indexAt,asIntOf,Fj,It,Ev,Bk (Dy he)];have:(0:Int)<=(k:Int)/\(k:Int)<(len:Int):=aA
 simp [this,Er hs,Du]):p:=h
def Ya0t (h:p:=by
 simp only [fX,O3] at hx;rw [List.getElem?_set] at hx;simp only [if_true] at hx;split at hx
 ·simpa using hx.symm
 ·simp at hx):p:=h
def Ya0u (h:p:=by simp only [Ca,Cg] at h;obtain ⟨cs,_,rfl,rfl⟩:=h;exact ⟨Za08,Zax,hI.tk,slot rfl (fun _=>⟨_,_,_,rfl,hI.le⟩)⟩):p:=h
def Ya0v (h:p:=by rw [Aa9];exact h x st hI fun y st' hlt hy=>ih (μ y) (hn ▸ hlt) y st' rfl hy):p:=h
def Ya0w (h:p:=by have:=A3 ik;rw [h5,N1] at this;simp at this ⊢;omega):p:=h
def Ya0x (h:p:=by simp (maxSteps:=10^6)+contextual(disch:=try exact dqd)only[ev1,simprocAttr,Cd,Cb,Ce,results197,ratA,digA,hA,hB,hK,hw1,hw2,d1,d2]):p:=h
def Ya0y (h:p:=by
 rcases (am j).1 hj with rfl|hj
 ·exact ew e he
 ·exact hD.closed j hj e he):p:=h
def Ya0z (h:p:=by simp (maxSteps:=10^6)+contextual(disch:=try exact dqd)only[ev1,simprocAttr,Cd,Cb,Ce,results175,iq1,iq2,iq3,iq4,iq5,Xd,digA]):p:=h
def Ya10 (h:p:=by rw [hr];simp (maxSteps:=10^6)+contextual(disch:=try exact dqd)only[evs0,simprocAttr,Cd,Cb,Ce,results165,frA,k1,k2,new1a,Hk]):p:=h
def Ya11 (h:p:=by simp (maxSteps:=10^6)+contextual(disch:=try exact dqd)only[ev1,simprocAttr,Cd,Cb,Ce,results37,h1,h2,d1];simp [befF,h]):p:=h
def Ya12 (h:p:=by simp only [over,Ca] at h;obtain ⟨x,h,rfl⟩:=h;simp only [Cr,over,Ank p h,C3]):p:=h
def Ya13 (h:p:=by
 cases hp:ops[j]? with
 | none=>rw [hp] at hwj; simp at hwj
 | some p =>
  rw [hp] at hwj;have:=(confl j p hp eJ eJ aA).1 h4;omega):p:=h
def Ya14 (h:p:=by simp only [VR] at hx ⊢;obtain ⟨b,o,vs,e,hl,hr⟩:=hx;exact ⟨b,o,vs,e,hl.stays h.stays,PRs.stays h.stays cs vs hr⟩):p:=h
def Ya15 (h:p:=by simpa using this):p:=h
def Ya16 (h:p:=by simp only [Cx.tok];obtain ⟨x,hx⟩:=Af (l:=put C.tk id (ep+1)) (i:=id) (by rw [Ao]; exact Bh h.2);rw [hx,D8 hx]):p:=h
def Ya17 (h:p:=by
 rw [bv,bu];intro q hq;rcases Bp hq with rfl|hq
 ·exact od
 ·rcases Bp hq with rfl|hq
  ·exact oo
  ·exact orowY q hq):p:=h
def Ya18 (h:p:=by have:=(Fu.1 hj).1;simp at this; omega):p:=h
def Ya19 (h:p:=by simp only [A8,Ds,h1,h2,h3,h4,zz,Ja,h5]; rfl):p:=h
def Ya1a (h:p:=by subst e;rw [if_pos rfl] at ab;rw [hp] at hq;simp only [A2] at ab hq;subst ab; subst hq; exact he):p:=h
def Ya1b (h:p:=by  rw [if_pos rfl,if_pos rfl]; grind):p:=h
def Ya1c (h:p:=by obtain ⟨-,o',dx,-⟩:=B2 hi;have:=(Cj.1 dx).1;rw [Array.size_push] at this; omega):p:=h
def Ya1d (h:p:=by refine ⟨[],?_,by simp [VRs],by simp⟩;cases a <;> simp [iS,loadCells,loadCellsFrom]):p:=h
def Ya1e (h:p:=by
 by_cases x:j=i
 ·subst x; simp [Ip,hl,hlt]
 ·rw [getD_set_ne false (fun y=>x y.symm),hk j];omega):p:=h
def Ya1f (h:p:=by simp only [Ca,Cg] at ho; obtain ⟨_,_,_,rfl⟩:=ho; exact ⟨_,rfl⟩):p:=h
def Ya1g (h:p:=by
 by_cases e:j=i
 ·subst e; rw [hx] at hy; simp only [A2] at hy; omega
 ·exact this.2.1 aA):p:=h
def Ya1h (h:p:=by
 have b7:¬ fn.body=none:=Za22
 simp [execOp,e,resolve,hx,nd,Deferred.ofValue,invoke,callFunc,g1,b8,b7]):p:=h
def Ya1i (h:p:=by
 rw [gX,gX,h1];have:(i ∈ x :: l)↔i ∈ l:=Za19
 simp only [this];omega):p:=h
def Ya1j (h:p:=by
 rcases Bp ab with rfl|ab
 ·exact hl
 ·exact h.rowW r ab):p:=h
def Ya1k (h:p:=by refine ⟨e.1,e.2.trans ?_⟩;rw [Em,Em];exact Lh (Gv aA) (Gv aA) (Gv h3)):p:=h
def Ya1l (h:p:=by have:=key (De n) List.nodup_range;rw [if_pos (by simpa using hi)] at this;unfold A5;omega):p:=h
def Ya1m (h:p:=by
 rw [Fx] at hc;rcases C4.1 hc with hc|hc
 ·exact g1 c hc
 ·exact g2 c hc):p:=h
def Ya1n (h:p:=by subst e; exact ⟨Yo,fun _=>Cc _⟩):p:=h
def Ya1o (h:p:=by simp only [VR] at hx ⊢;obtain ⟨vs,e,hr⟩:=hx;exact ⟨vs,e,VRs.mono0 h caps vs.toList hr⟩):p:=h
def Ya1p (h:p:=by rw [k1.keep b (Cj.1 hb1).1 fun o hm=>bl.sr.own b o hm (db o)]; exact hb1):p:=h
def Ya1q (h:p:=by rw [if_pos aX] at h; exact absurd h h0):p:=h
def Ya1r (h:p:=by have:=congrArg List.length hl;simp only [gQ,Ck,h.rows] at this;omega):p:=h
def Ya1s (h:p:=by simp only [VR] at hx ⊢;obtain ⟨vs,e,hr⟩:=hx;exact ⟨vs,e,VRs.mono h caps vs.toList hr⟩):p:=h
def Ya1t (h:p:=by rw [Io dv,Sq] at hj;simp [Fz,h3]; simpa using hj):p:=h
def Ya1u (h:p:=by
 cases dd:o.dst with
 | none=>simp only [putT]
 | some d =>
  simp only [putT];rw [Bx (fun x=>hne cP)]):p:=h
def Ya1v (h:p:=by
 obtain ⟨ex,s2⟩:=x;cases ex with
 | normal=>rfl
 | exit id=>exact absurd h (hne id s2)
 | ret=>rfl):p:=h
def Ya1w (h:p:=by simp only [VR] at hx ⊢;obtain ⟨vs,e,hr⟩:=hx;exact ⟨vs,e,VRs.mono0 h cs vs.toList hr⟩):p:=h
def Ya1x (h:p:=by rw [List.take_append,Fc aA,uq,I4,iW,F4]):p:=h
def Ya1y (h:p:=by simp only [VR] at hx ⊢;obtain ⟨vs,e,hr⟩:=hx;exact ⟨vs,e,VRs.mono h cs vs.toList hr⟩):p:=h
def Ya1z (h:p:=by exact ⟨Gh (v:=w) (w':=C'.w) dW (hn w C' h2 h3 (h4.trans hr.S) h5 (h6.trans hr.n) h7),rfl⟩):p:=h
def Ya20 (h:p:=by
 obtain ⟨ex,s2⟩:=r;cases ex with
 | normal=>exact absurd he (hne s2)
 | exit id=>rfl
 | ret=>rfl):p:=h
def Ya21 (h:p:=by
 unfold runP at hrun ⊢;split at hrun
 ·rename_i r' s1 ho;rw [out ho];exact hrun
 ·simp at hrun):p:=h
def Ya22 (h:p:=by
 split at he
 ·rename_i r' s1 ho;rw [Jo (fun z hz=>Dc ih aA c _ z hz) ho];exact he
 ·simp at he):p:=h
def Ya23 (h:p:=by unfold mkA;rw [hz,hs,hb,intN_cast];simp only [mkB];rw [if_pos ⟨Cc _,h,hbl,rfl⟩]):p:=h
def Ya24 (h:p:=by
 cases fx with
 | func g=>simp only [ur g rfl,yc,iN]
 | _=>simp only [nj,iN]):p:=h
def Ya25 (h:p:=by
 cases fx with
 | func g=>simp only [ur g rfl,sw,Sr]
 | _=>simp only [nj,Sr]):p:=h
def Ya26 (h:p:=by refine ⟨e.1,e.2.trans ?_⟩;rw [Em,Em];exact Jb (Gv aA) (Gv aA)):p:=h
def Ya27 (h:p:=by  exact h.rowE j q r hq ab):p:=h
def Ya28 (h:p:=by simp only [A2,Cg] at h; obtain ⟨-,rfl⟩:=h; exact Kq.refl _):p:=h
def Ya29 (h:p:=by rw [F9] at he;obtain ⟨e',p7,rfl⟩:=he;rw [Fq]; exact g2 e' p7):p:=h
def Ya2a (h:p:=by rename_i h'; exact absurd h' (hb _)):p:=h
def Ya2b (h:p:=by simp only [Ca,Cg] at bg;obtain ⟨cs,-,-,rfl⟩:=bg;simp):p:=h
def Ya2c (h:p:=by refine N4 (by rw [<- jl,Xp]) ik fun e he=>?_;have:=dq e he;rw [G4 aA]; exact aw e this):p:=h
def Ya2d (h:p:=by
 have:n.natAbs<10000 ^ 5:=aA
 exact Ff this (Nat.pow_le_pow_right aA aA)):p:=h
def Ya2e (h:p:=by simp only [A8,Ds,h1,h2,h3,h4]; rfl):p:=h
def Ya2f (h:p:=by simp only [A2,Cg] at h; obtain ⟨_,rfl⟩:=h; exact this):p:=h
def Ya2g (h:p:=by rw [gX,gX,h1,hu,if_neg hn.1] at *;simp at ih ⊢;omega):p:=h
def Ya2h (h:p:=by simp only [VR] at hx ⊢;obtain ⟨u,e,hr⟩:=hx;exact ⟨u,e,VR.mono0 h v u hr⟩):p:=h
def Ya2i (h:p:=by simp only [VR] at hx ⊢;obtain ⟨u,e,hr⟩:=hx;exact ⟨u,e,VR.mono h v u hr⟩):p:=h
def Ya2j (h:p:=by simp only [Ca] at h;obtain ⟨v,h,hh⟩:=h;exact quiet v h hh):p:=h
def Ya2k (h:p:=by
 induction l with
 | nil=>rfl
 | cons j l ih=>unfold putD fX; split <;> simp [ih]):p:=h
def Ya2l (h:p:=by
 have hxs:x<listed.size:=aA
 simp [Ip,hxs] at h0 h1;rw [h0] at h1; cases h1):p:=h
def Ya2m (h:p:=by rw [he,Fo];exact ⟨fun h=>by simp [A8,h],fun h=>by simp [A8,h]⟩):p:=h
def Ya2n (h:p:=by
 split at h
 ·rename_i h'; simp only [A2] at h; rw [h',h]
 ·cases h):p:=h
def Ya2o (h:p:=by rw [Qy,h.len,gZ,L3,this];exact hv):p:=h
def Ya2p (h:p:=by
 induction l with
 | nil=>rfl
 | cons j l ih=>unfold B1 fX; split <;> simp [ih]):p:=h
def Ya2q (h:p:=by
 rcases F3 j m with hlt|f9
 ·exact hlt
 ·rw [ht j f9] at hj; simp at hj):p:=h
def Ya2r (h:p:=by have:=cd.2.2 aA;have h2:=(hw c aA this.1).2 hlt;rw [this.2] at h2; simp at h2):p:=h
def Ya2s (h:p:=by show RK P fn (.loop c) { st with S:=cutS (Abw c) m st.S } k=_;rw [hk.h]; rfl):p:=h
def Ya2t (h:p:=by  exact Cc _):p:=h
def Ya2u (h:p:=by unfold inB;exact ⟨fun h=>cW,fun h=>cW⟩):p:=h
def Ya2v (h:p:=by simp only [A8,Ds,h1,h2,h3]; rfl):p:=h
def Ya2w (h:p:=by  rwa [World.size_alloc] at this):p:=h
def Ya2x (h:p:=by unfold apO;rw [h]; simp only [hl];rw [if_pos ⟨aA,by simp [roomy]⟩];rfl):p:=h
def Ya2y (h:p:=by rename_i x hx;rw [hx] at h2; simp only [VR] at h2; subst h2;simpa using h):p:=h
def Ya2z (h:p:=by simp only [Cg] at e;exact ⟨h0,o',dx,by rw [e.1]; exact hd⟩):p:=h
def Ya30 (h:p:=by simp only [Cx.hid];rw [hle.av];exact ⟨fun h=>h.resolve_right hx,.inl⟩):p:=h
def Ya31 (h:p:=by rcases hone u rfl with ⟨s,e⟩|⟨s,e⟩ <;> rw [this] at e <;> cases e):p:=h
def Ya32 (h:p:=by show entAt SF _ _=_;rw [Aa (jd _ aA aA (fun _=>⟨aA,aA⟩))]; exact ae.Z):p:=h
def Ya33 (h:p:=by show nth SF j=_;rw [jd j aA aA (fun _=>⟨aA,aA⟩)]; exact ae.fr j h1 h2):p:=h
def Ya34 (h:p:=by simp [Instr.fieldAt,Bk hu,hfk,O5,fieldPlace,Er h2,h4,Du,h1]):p:=h
def Ya35 (h:p:=by have:l.length≠0:=fun h'=>h (Fh.1 h');simp; omega):p:=h
def Ya36 (h:p:=by have:=A3 aa;exact List.length_eq_one_iff.1 (by simpa using this.symm)):p:=h
def Ya37 (h:p:=by rw [io] at this; simp at this):p:=h
def Ya38 (h:p:=by  simp [Ip] at hj):p:=h
def Ya39 (h:p:=by simp [method,typeInfo,h1,h2,h3,h4,follow,receiverAt,Bk h5,Place.get]):p:=h
def Ya3a (h:p:=by exact ⟨hr.defers,v,h1,v,C',rfl,rfl,hle,hr.sr,hr.S,hr.tk,hr.n,h2⟩):p:=h
def Ya3b (h:p:=by rw [Ae] at h;exact (Im.1 (Ik h)).2):p:=h
def Ya3c (h:p:=by rw [hX,Below.heap_setCell _ _ _ _ bR,Below.heap_setCell _ _ _ _ aR]):p:=h
def Ya3d (h:p:=by
 cases U with
 | nil=>simp at tv; omega
 | cons x u=>exact ⟨x,u,rfl⟩):p:=h
def Ya3e (h:p:=by rwa [show o+(i+1)*sz=o+sz+i*sz by rw [Sg]; omega] at this):p:=h
def Ya3f (h:p:=by simp only [A8,Ds,h1,h2]; rfl):p:=h
def Ya3g (h:p:=by obtain ⟨b',o',h1,h2,-⟩:=hcells j x hx;exact ⟨b',o',h1,h2⟩):p:=h
def Ya3h (h:p:=by simp only [IntKind.wrap,IntKind.bits,IntKind.signed]; simp; omega):p:=h
def Ya3i (h:p:=by  simp only; show _ / ((1:Int):Rat)=_; rw [Rat.intCast_one]; grind):p:=h
def Ya3j (h:p:=by rw [Dn e];exact ⟨.inr,fun h=>h.resolve_left fun x=>e x.symm⟩):p:=h
def Ya3k (h:p:=by  rw [ho] at this;simp only at this;rw [cg] at this; simp at this):p:=h
def Ya3l (h:p:=by exact sum_congr fun j _=>aM):p:=h
def Ya3m (h:p:=by
 have h0:A5 listed ops.size=0:=aA
 unfold A5 at h0;rw [List.countP_eq_zero] at h0;have:=h0 j aW;exact Ya15):p:=h
def Ya3n (h:p:=by
 refine ⟨fun q h=>?_,fun j=>?_⟩
 ·exact Ya0e
 ·cases j with
  | zero=>exact hs.2
  | succ j=>exact ih.2 j):p:=h
def Ya3o (h:p:=by
 refine ⟨0,?_,Cc _,fun _=>?_⟩
 ·simp only [Cx.tok,Ae]; simp
 ·exact Ya0b):p:=h
def Ya3p (h:p:=by
 induction n using Oy with
 | _ n ih =>
  intro x st hn hI;exact Ya0v):p:=h
def Ya3q (h:p:=by
 by_cases e:i=k
 ·subst e;exact Ya1b
 ·rw [if_neg e,if_neg (Oo e)]; grind):p:=h
def Ya3r (h:p:=by
 cases cq:o.dst with
 | none=>rw [cq] at hx; exact hx
 | some d0 =>
  exact Yaw):p:=h
def Ya3s (h:p:=by rename_i ni;rw [if_pos (show @Ext.mv P E f=true from ni)];exact Ya0d):p:=h
end Go.Proofs.YtcandeobhlfkbaaGreat
