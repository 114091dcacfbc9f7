/- Part 1. -/
import Derived.KernelRfl
namespace Go.Proofs.YthelkgdmgihhiaaGreat
variable {p:Prop}
set_option linter.defProp false
def aA (h:p:=by omega):p:=h
def aC (h:p:=by first|rfl|simp only [getT,Ft,Cm,Cw,digC,digA]):p:=h
def aH (h:p:=by first|rfl|simp only [getT,Ft,Cm,Cw,A2,Ak]):p:=h
def aD (h:p:=by unfold i64; omega):p:=h
def aE (h:p:=by first|omega|(dsimp only; omega)):p:=h
def aF (h:p:=by first|omega|(simp only; omega)):p:=h
def aB (h:p:=by simp; omega):p:=h
def aV (h:p:=by first|rfl|simp only [getT,Ft,Cm,Cw,strC,B2,and_self]):p:=h
def aW (h:p:=by first|rfl|simp only [getT,Ft,Cm,Cw,and_self]):p:=h
def aZ (h:p:=by and_intros <;> first|rfl|simp only [getT,Ft]):p:=h
def aG (h:p:=by first|rfl|assumption):p:=h
def bW (h:p:=by and_intros <;> first|rfl|simp only [getT,Ft,Cm,Cw]):p:=h
def aI (h:p:=by simpa using h):p:=h
def aN (h:p:=by simp only [VRs] at h):p:=h
def bJ (h:p:=by first|rfl|simp only [getT,Ft]):p:=h
def bX (h:p:=by rw [k1,k2,k3,decide_eq_false b4]; exact K2):p:=h
def aK (h:p:=by kernel_rfl):p:=h
def bH (h:p:=by simp only [tys,Lg]):p:=h
def aO (h:p:=by decide +kernel):p:=h
def dC (h:p:=by first|rfl|simp only [getT,ez,Ft,Cm,Cw,and_self]):p:=h
def bK (h:p:=by rw [List.length_set]; exact h.len):p:=h
def aQ (h:p:=by simpa using hlt):p:=h
def bD (h:p:=by simp only [execOp,e]):p:=h
def dS (h:p:=by rw [<- mq,Nat.gcd_comm x y]; exact (Nat.gcd_rec y x).symm ▸ Nat.gcd_comm y (x % y)):p:=h
def dT (h:p:=by simp only [evC,A0,Cc] at h; obtain ⟨_,rfl⟩:=h; exact hI):p:=h
def bY (h:p:=by rw [k1,k2,k3,decide_eq_true b4]; rfl):p:=h
def bE (h:p:=by simp only [PR] at hx):p:=h
def aS (h:p:=by simpa using h0):p:=h
def aM (h:p:=by simp at h):p:=h
def Zax (h:p:=by show m<=(st.S++_).length; rw [Cn]; exact Fv hI.le (Ob _ _)):p:=h
def bF (h:p:=by simp only [PR] at h):p:=h
def aU (h:p:=by simpa using h1):p:=h
def Za01 (h:p:=by have:=t.b; simp only [Cf,F8] at this; exact this.1):p:=h
def Za02 (h:p:=by and_intros <;> first|rfl|simp only [getT,Ks,Ft,Cm,Cw]):p:=h
def aX (h:p:=by simpa using b1):p:=h
def aY (h:p:=by simpa using b2):p:=h
def cK (h:p:=by rw [<- Su]; simp [hu]):p:=h
def bL (h:p:=by simp only [PRs] at h):p:=h
def Za07 (h:p:=by show (st.S++_).take m=S0; rw [I6 hI.le]; exact hI.S):p:=h
def aL (h:p:=by decide):p:=h
def aJ (h:p:=by grind):p:=h
def Za0a (h:p:=by show (p++[y.1]).length+v.length=W; simp only [Cn,Ck,C3] at oh ⊢; omega):p:=h
def bA (h:p:=by simpa using b3):p:=h
def bC (h:p:=by simpa using b4):p:=h
def cP (h:p:=by rw [<- Su]; simp [ht]):p:=h
def dU (h:p:=by simp only [nth,A0] at h; subst h; rfl):p:=h
def dV (h:p:=by simp [execOp,e,resolve,hb,ha,invoke,builtin,pp,h1]):p:=h
def bI (h:p:=by simpa using hj):p:=h
def aP (h:p:=by cases h):p:=h
def dW (h:p:=by rw [Ae] at hx; exact Il hx):p:=h
def bM (h:p:=by simp only; omega):p:=h
def Za0l (h:p:=by rw [jt,hlp]; simp only [C7,Co,Ct,Fx]):p:=h
def cQ (h:p:=by rw [Iy]; omega):p:=h
def Za0n (h:p:=by have:=t.b; simp only [Cf,F8] at this; exact this.2):p:=h
def Za0o (h:p:=by simpa only [C7,Co,Ct,Fx] using fj):p:=h
def dD (h:p:=by unfold Bu; rw [ho]; simpa using x):p:=h
def bN (h:p:=by simp only [VR]):p:=h
def Za0r (h:p:=by rw [<- hg,Nat.gcd_comm x y]; exact (Nat.gcd_rec y x).symm ▸ Nat.gcd_comm y (x % y)):p:=h
def Za0t (h:p:=by rw [iE]; exact Hg (PRs.stays ah _ _ l9) (PRs.stays ah _ _ bc)):p:=h
def bZ (h:p:=by simp [Op.operands]):p:=h
def cA (h:p:=by rw [k1,k2,k3]; rfl):p:=h
def cR (h:p:=by have:=au.iq; omega):p:=h
def bP (h:p:=by simpa using la):p:=h
def bG (h:p:=by simp [hx]):p:=h
def Za10 (h:p:=by cases b <;> simp [eqA] at h ⊢; exact ⟨h.1,Ls h.2⟩):p:=h
def cB (h:p:=by simp at hi; omega):p:=h
def dE (h:p:=by simp only [Cw,VRs]):p:=h
def Za13 (h:p:=by intro m' em; simp only [A0] at em; subst em; exact hc):p:=h
def bS (h:p:=by simpa using hl):p:=h
def Za15 (h:p:=by unfold Ks; exact Gb (sz:=4) (f:=fun q=>ceW (qF.rat q)) (fun _=>rfl) l):p:=h
def cC (h:p:=by rw [k1,k2]; rfl):p:=h
def bT (h:p:=by simp only [VRs]):p:=h
def bU (h:p:=by simp [nth] at h):p:=h
def Za19 (h:p:=by simp only [execOp,e,Fe,g1,Ea,Im]):p:=h
def Za1a (h:p:=by simp only [E3,okZ,hla,hlb]; simp [cw]; omega):p:=h
def cD (h:p:=by simpa using hneg):p:=h
def Za1c (h:p:=by cases b <;> simp [eqA] at h ⊢; exact Ls h):p:=h
def cU (h:p:=by rw [hsz]; exact cj):p:=h
def cE (h:p:=by simp only [evC]):p:=h
def bQ (h:p:=by simp [wrS]):p:=h
def cF (h:p:=by simpa using hm):p:=h
def cG (h:p:=by simpa using hz):p:=h
def cH (h:p:=by rw [k1]; rfl):p:=h
def cI (h:p:=by simp [wrT,ak]):p:=h
def dF (h:p:=by simp only [sum]; grind):p:=h
def Za1q (h:p:=by simp only [Cx.tok,if_true]; exact hp):p:=h
def dX (h:p:=by rw [hψ]; simp only; omega):p:=h
def Za1s (h:p:=by intro hh; rw [hh] at g3; simp at g3):p:=h
def dG (h:p:=by unfold evQ; rw [ho]):p:=h
def Za1w (h:p:=by simp only [gt_iff_lt] at h; rw [h3] at h; simp at h):p:=h
def cM (h:p:=by simpa using h2):p:=h
def dY (h:p:=by rw [u3] at hw; simp at hw):p:=h
def dZ (h:p:=by simpa only [evC] using he):p:=h
def bV (h:p:=by simp [hq]):p:=h
def Za21 (h:p:=by rw [kw]; exact Da.times _ _ ou ow):p:=h
def Za22 (h:p:=by rw [gn]; exact Da.minus _ _ oz oy):p:=h
def Za23 (h:p:=by rw [List.length_set,List.length_set]; exact h.len):p:=h
def cV (h:p:=by simpa using hx):p:=h
def Za25 (h:p:=by rw [e] at me; simp at me; omega):p:=h
def Za26 (h:p:=by unfold Bu at hd; rw [ho] at hd; simpa using hd):p:=h
def eA (h:p:=by rw [ak] at hb; cases hb):p:=h
def dH (h:p:=by simp [execOp,e,hb]):p:=h
def cW (h:p:=by simp [evC] at h):p:=h
def Za2a (h:p:=by rw [Ae] at hy; exact Il hy):p:=h
def dI (h:p:=by rintro a ⟨⟩; rfl):p:=h
def Za2c (h:p:=by have h:=je.T.costE; rw [az.2.2] at h; exact h):p:=h
def Za2d (h:p:=by rw [Am,je.len,ag.len]; exact Cb _):p:=h
def Za2e (h:p:=by rw [hR]; unfold ansC; rw [iH]; rfl):p:=h
def Za2f (h:p:=by rw [hn,if_neg (by simp only [h1,h2]; simp)]):p:=h
def eD (h:p:=by unfold maxLen; omega):p:=h
def dJ (h:p:=by rw [hx.1]; simp):p:=h
def eE (h:p:=by simp only [VRs] at hx):p:=h
def eF (h:p:=by simp [Cx.alone] at hi):p:=h
def cN (h:p:=by assumption):p:=h
def cX (h:p:=by simpa using aq):p:=h
def Za2m (h:p:=by intro f args S tk n r he; simp [evF] at he):p:=h
def Za2n (h:p:=by simp [PRs,PR,fU]):p:=h
def cY (h:p:=by simpa using c9):p:=h
def cZ (h:p:=by simpa using ca):p:=h
def Za2q (h:p:=by rw [kh]; omega):p:=h
def Za2r (h:p:=by rw [cd j h2.1,bc j h2.1]; exact ba j h1 h2):p:=h
def Za2u (h:p:=by rw [k1.av]; exact gy x o hx):p:=h
def Za2v (h:p:=by rw [Fe,Ds (by simp)]; exact h1):p:=h
def eG (h:p:=by simpa [Am] using hi):p:=h
def Za2x (h:p:=by simp only [VRs]; exact ⟨h1,h2,trivial⟩):p:=h
def Za2y (h:p:=by unfold topV; rw [Fs,B4]; rfl):p:=h
def Za2z (h:p:=by rw [HI.out.rest]; exact Sc _ hb0):p:=h
def cJ (h:p:=by simp [h]):p:=h
def Za32 (h:p:=by simp [Cx.more,hr.S,hr.n]):p:=h
def Za33 (h:p:=by unfold topV; rw [Fh]; rfl):p:=h
def Za36 (h:p:=by show t1.rows.length+1<=1000000; omega):p:=h
def cO (h:p:=by rw [d8,x]):p:=h
def Za38 (h:p:=by rw [iY hbel (E2 hv)]; exact hv):p:=h
def Za39 (h:p:=by simp only [oneOf,VR]; exact ⟨_,rfl,h2⟩):p:=h
def eH (h:p:=by simp [conf,ck,cn]):p:=h
def eI (h:p:=by simpa using hs.h2):p:=h
def dK (h:p:=by simpa using hn):p:=h
def dL (h:p:=by rw [Am]; omega):p:=h
def Za3e (h:p:=by unfold Ks; rw [Ib]; omega):p:=h
def Za3f (h:p:=by rw [setRow_other _ _ _ _ h]; exact hd):p:=h
def Za3g (h:p:=by simp [Cx.tok] at hi; simp [Hq]; omega):p:=h
def Za3h (h:p:=by simp [Op.operands,Call.operands,ak]):p:=h
def Za3i (h:p:=by have h:=js; rw [az.2.2] at h; exact h):p:=h
def dM (h:p:=by simpa using hu):p:=h
def Za3k (h:p:=by rw [Array.toList_map]; exact K5 hρ _):p:=h
def eJ (h:p:=by simpa using hs.h):p:=h
def Za3m (h:p:=by rintro ⟨a,b,c⟩ ⟨⟩; rfl):p:=h
def eK (h:p:=by simp at h ⊢; omega):p:=h
def dN (h:p:=by simpa using h3):p:=h
def dO (h:p:=by simpa using g2):p:=h
def Za3q (h:p:=by unfold Bu; rw [ho]; simpa using e):p:=h
def dP (h:p:=by rw [Er,h]; rfl):p:=h
def Za3s (h:p:=by rw [Oa]; omega):p:=h
def Za3t (h:p:=by rw [h.rows]; exact hi):p:=h
def eM (h:p:=by simp [Ju,e] at hm):p:=h
def eO (h:p:=by rw [hx.2]; simp):p:=h
def Za3w (h:p:=by rw [k1.av]; exact di o):p:=h
def Za3x (h:p:=by rintro ⟨a,b⟩ ⟨⟩; rfl):p:=h
def eP (h:p:=by simp [over] at h):p:=h
def eQ (h:p:=by simpa using hi):p:=h
def eR (h:p:=by simp [Po]; omega):p:=h
def Za41 (h:p:=by simp [Cx.more,hr.n]):p:=h
def Za42 (h:p:=by cases t <;> simp [br]):p:=h
def Za43 (h:p:=by have:=gA.pos; omega):p:=h
def eU (h:p:=by simpa using ho):p:=h
def Za45 (h:p:=by rw [Aa kn]; exact mw):p:=h
def dA (h:p:=by simp at hl):p:=h
def eV (h:p:=by simpa using bj):p:=h
def dR (h:p:=by simp [h.len]):p:=h
def eW (h:p:=by simp [C0] at hi):p:=h
def eX (h:p:=by split <;> grind):p:=h
def eY (h:p:=by simpa using he):p:=h
def eZ (h:p:=by rw [G9]; omega):p:=h
def Za4d (h:p:=by rw [e1]; exact hrun):p:=h
def Za4e (h:p:=by have:=cl.1; omega):p:=h
def Za4f (h:p:=by have:=g2.1; omega):p:=h
def Za4g (h:p:=by simp [Op.bytesLess]):p:=h
def Za4h (h:p:=by rw [Ai]; exact h.nb):p:=h
def Za4i (h:p:=by rw [Ae]; exact hi):p:=h
def fA (h:p:=by simp [wrS,ak]):p:=h
def fB (h:p:=by simpa using sd):p:=h
def fC (h:p:=by simpa using g1):p:=h
def fD (h:p:=by simpa using j0):p:=h
def fE (h:p:=by rw [hNn,hD,hg]):p:=h
def fF (h:p:=by simpa using qg):p:=h
def fG (h:p:=by simpa using ji):p:=h
def fH (h:p:=by simpa using lb):p:=h
def Za4r (h:p:=by rw [hψ]; exact h1):p:=h
def Za4s (h:p:=by simp +contextual):p:=h
def fI (h:p:=by rw [eg]; simp):p:=h
def aT (h:p:=by rw [Ac aD]; omega):p:=h
def aR (h:p:=by rw [Ac aD]; rfl):p:=h
def Za4w (h:p:=by simp only [A0,Cc] at h; obtain ⟨rfl,rfl⟩:=h; exact ⟨rfl,Za2q,oy⟩):p:=h
def dB (h:p:=by rw [F5 aA]; rfl):p:=h
def Za4y (h:p:=by simp only [A0,Cc] at h; obtain ⟨rfl,rfl⟩:=h; exact ⟨rfl,Za2q,ol⟩):p:=h
def bR (h:p:=by rw [Ac aD]; simp):p:=h
def Za50 (h:p:=by rw [key j aA]; exact h.fr j h1 h2):p:=h
def Za51 (h:p:=by rw [Ad aE,cd j h2.1,bc j h2.1]; exact ba j h1 h2):p:=h
def Za52 (h:p:=by rw [bh]; first|rfl|exact Ay cR):p:=h
def Za53 (h:p:=by rw [Aa (key _ aA)]; exact h.E15):p:=h
def Za54 (h:p:=by simp only [first]; rw [if_neg aA,if_neg aA]):p:=h
def Za55 (h:p:=by rw [Aa (key _ aA)]; exact h.Z):p:=h
def Za56 (h:p:=by rw [Aa (fe Sf.length (hoN 0 aA))]; exact Bz):p:=h
def Za57 (h:p:=by rw [Aa (fe _ (ng _ aA aA))]; exact Ab hEf):p:=h
def Ya0 (h:p:=by
 subst hM;refine Adp (P:=prog) (fun x st=>st.T.length=56/\(x.1.gcd x.2=g)/\(x.1<9223372036854775808)/\(x.2<9223372036854775808)/\getT st.T 0=.ref iq eq 0/\getT st.T 1=.int (M:Int)/\getT st.T 2=.int (D:Nat)/\getT st.T 6=.ref S.length k 0/\getT st.T 7=.int (x.1:Nat)/\getT st.T 8=.int (x.2:Nat)/\st.S=S++[⟨k,[.int 0,.int 0]⟩]/\st.tk=tk/\st.n=k+1) (fun x=>x.2) (fun x=>(frA r.1,QQ.flS S iq eq r.2,tk,k+1)) ((M:Int).natAbs,D) ?_ ?_;case refine_2=>exact ⟨rfl,fE,aA,aA,rfl,rfl,rfl,rfl,rfl,rfl,rfl,rfl,rfl⟩
 rintro ⟨x,y⟩ ⟨T,S',tk',n'⟩ ⟨hl,mq,hx,hy,e0,e1,e2,e6,e7,e8,eS,eT,eN⟩ IH;simp only at mq hx hy e0 e1 e2 e6 e7 e8 eS eT eN;subst eS eT eN;obtain ⟨g,hg,hT⟩:=Aw hl;rw [hg] at e0 e1 e2 e6 e7 e8;subst hT;clear hg hl;by_cases h0:y=0
 ·subst h0;have c1:(((0:Nat):Int) != 0)=false:=rfl;rw [Sa] at mq;subst mq;by_cases h1:1<x
  ·rw [if_pos h1,if_pos h1] at ab;have c2:decide ((x:Int) > 1)=true:=aB
   have hz:¬ ((x:Int)=0):=aA
   have v1:=Dh (M:Int) x;have v2:=Dh (D:Int) x;have w5:Ce.wrap ((M:Int).tdiv (x:Int))=(M:Int).tdiv (x:Int):=Ac aD;have w6:Ce.wrap ((D:Int).tdiv (x:Int))=(D:Int).tdiv (x:Int):=Ac aD;by_cases b1:(M:Int).tdiv (x:Int)<=-2147483648
   ·have k1:decide ((M:Int).tdiv (x:Int)<=-2147483648)=true:=aX
    rw [if_pos cH] at ab;rw [ab];simp (maxSteps:=10^6)+contextual(disch:=try exact dqd)only[evs0,simprocAttr,Cg,Ca,Ch,results223,e0,e1,e2,e6,e7,e8,c1,c2,hz,w5,w6,bw,hE,hP,hT,hA,k1,frA,A3]
   have k1:decide ((M:Int).tdiv (x:Int)<=-2147483648)=false:=aX
   by_cases b2:(M:Int).tdiv (x:Int) >= 2147483648
   ·have k2:decide ((M:Int).tdiv (x:Int) >= 2147483648)=true:=aY
    rw [if_pos cC] at ab;rw [ab];simp (maxSteps:=10^6)+contextual(disch:=try exact dqd)only[evs0,simprocAttr,Cg,Ca,Ch,results223,e0,e1,e2,e6,e7,e8,c1,c2,hz,w5,w6,bw,hE,hP,hT,hA,k1,k2,frA,A3]
   have k2:decide ((M:Int).tdiv (x:Int) >= 2147483648)=false:=aY
   by_cases b3:(D:Int).tdiv (x:Int) >= 2147483648
   ·have k3:decide ((D:Int).tdiv (x:Int) >= 2147483648)=true:=bA
    rw [if_pos cA] at ab;rw [ab];simp (maxSteps:=10^6)+contextual(disch:=try exact dqd)only[evs0,simprocAttr,Cg,Ca,Ch,results223,e0,e1,e2,e6,e7,e8,c1,c2,hz,w5,w6,bw,hE,hP,hT,hA,k1,k2,k3,frA,A3]
   have k3:decide ((D:Int).tdiv (x:Int) >= 2147483648)=false:=bA
   by_cases b4:(D:Int).tdiv (x:Int)=0
   ·have k4:((D:Int).tdiv (x:Int) == 0)=true:=bC
    rw [if_pos bY] at ab;rw [ab];simp (maxSteps:=10^6)+contextual(disch:=try exact dqd)only[evs0,simprocAttr,Cg,Ca,Ch,results223,e0,e1,e2,e6,e7,e8,c1,c2,hz,w5,w6,bw,hE,hP,hT,hA,k1,k2,k3,k4,frA,A3]
   have k4:((D:Int).tdiv (x:Int) == 0)=false:=bC
   rw [if_neg bX] at ab;rw [ab];simp (maxSteps:=10^6)+contextual(disch:=try exact dqd)only[evs0,simprocAttr,Cg,Ca,Ch,results223,e0,e1,e2,e6,e7,e8,c1,c2,hz,w5,w6,bw,k1,k2,k3,k4,frA,Es]
  ·rw [if_neg h1,if_neg h1] at ab;have c2:decide ((x:Int) > 1)=false:=aB
   by_cases b1:(M:Int)<=-2147483648
   ·have k1:decide ((M:Int)<=-2147483648)=true:=aX
    rw [if_pos cH] at ab;rw [ab];simp (maxSteps:=10^6)+contextual(disch:=try exact dqd)only[evs0,simprocAttr,Cg,Ca,Ch,results223,e0,e1,e2,e6,e7,e8,c1,c2,bw,hE,hP,hT,hA,k1,frA,A3]
   have k1:decide ((M:Int)<=-2147483648)=false:=aX
   by_cases b2:(M:Int) >= 2147483648
   ·have k2:decide ((M:Int) >= 2147483648)=true:=aY
    rw [if_pos cC] at ab;rw [ab];simp (maxSteps:=10^6)+contextual(disch:=try exact dqd)only[evs0,simprocAttr,Cg,Ca,Ch,results223,e0,e1,e2,e6,e7,e8,c1,c2,bw,hE,hP,hT,hA,k1,k2,frA,A3]
   have k2:decide ((M:Int) >= 2147483648)=false:=aY
   by_cases b3:(D:Int) >= 2147483648
   ·have k3:decide ((D:Int) >= 2147483648)=true:=bA
    rw [if_pos cA] at ab;rw [ab];simp (maxSteps:=10^6)+contextual(disch:=try exact dqd)only[evs0,simprocAttr,Cg,Ca,Ch,results223,e0,e1,e2,e6,e7,e8,c1,c2,bw,hE,hP,hT,hA,k1,k2,k3,frA,A3]
   have k3:decide ((D:Int) >= 2147483648)=false:=bA
   by_cases b4:(D:Int)=0
   ·have k4:((D:Int) == 0)=true:=bC
    rw [if_pos bY] at ab;rw [ab];simp (maxSteps:=10^6)+contextual(disch:=try exact dqd)only[evs0,simprocAttr,Cg,Ca,Ch,results223,e0,e1,e2,e6,e7,e8,c1,c2,bw,hE,hP,hT,hA,k1,k2,k3,k4,frA,A3]
   have k4:((D:Int) == 0)=false:=bC
   rw [if_neg bX] at ab;rw [ab];simp (maxSteps:=10^6)+contextual(disch:=try exact dqd)only[evs0,simprocAttr,Cg,Ca,Ch,results223,e0,e1,e2,e6,e7,e8,c1,c2,bw,k1,k2,k3,k4,frA,Es]
 ·have c1:((y:Int) != 0)=true:=aS
  have hz:¬ ((y:Int)=0):=aA
  have hm:(x:Int).tmod (y:Int)=((x % y:Nat):Int):=dB
  simp (maxSteps:=10^6)+contextual(disch:=try exact dqd)only[evs0,simprocAttr,Cg,Ca,Ch,results223,e0,e1,e2,e6,e7,e8,c1,hz,hm];have hlt:=Sc x (by omega:0<y);exact IH (y,x % y) _ aF ⟨rfl,dS,hy,aE,aZ⟩):p:=h
def Ya1 (h:p:=by
 by_cases b3:(D:Int).tdiv (x:Int) >= 2147483648
 ·have k3:decide ((D:Int).tdiv (x:Int) >= 2147483648)=true:=bA
  rw [if_pos cA] at ab;rw [ab];simp (maxSteps:=10^6)+contextual(disch:=try exact dqd)only[evs0,simprocAttr,Cg,Ca,Ch,results223,e0,e1,e2,e6,e7,e8,c1,c2,hz,w5,w6,bw,hE,hP,hT,hA,k1,k2,k3,frA,A3]
 have k3:decide ((D:Int).tdiv (x:Int) >= 2147483648)=false:=bA
 by_cases b4:(D:Int).tdiv (x:Int)=0
 ·have k4:((D:Int).tdiv (x:Int) == 0)=true:=bC
  rw [if_pos bY] at ab;rw [ab];simp (maxSteps:=10^6)+contextual(disch:=try exact dqd)only[evs0,simprocAttr,Cg,Ca,Ch,results223,e0,e1,e2,e6,e7,e8,c1,c2,hz,w5,w6,bw,hE,hP,hT,hA,k1,k2,k3,k4,frA,A3]
 have k4:((D:Int).tdiv (x:Int) == 0)=false:=bC
 rw [if_neg bX] at ab;rw [ab];simp (maxSteps:=10^6)+contextual(disch:=try exact dqd)only[evs0,simprocAttr,Cg,Ca,Ch,results223,e0,e1,e2,e6,e7,e8,c1,c2,hz,w5,w6,bw,k1,k2,k3,k4,frA,Es]):p:=h
def Ya2 (h:p:=by
 by_cases b3:(D:Int) >= 2147483648
 ·have k3:decide ((D:Int) >= 2147483648)=true:=bA
  rw [if_pos cA] at ab;rw [ab];simp (maxSteps:=10^6)+contextual(disch:=try exact dqd)only[evs0,simprocAttr,Cg,Ca,Ch,results223,e0,e1,e2,e6,e7,e8,c1,c2,bw,hE,hP,hT,hA,k1,k2,k3,frA,A3]
 have k3:decide ((D:Int) >= 2147483648)=false:=bA
 by_cases b4:(D:Int)=0
 ·have k4:((D:Int) == 0)=true:=bC
  rw [if_pos bY] at ab;rw [ab];simp (maxSteps:=10^6)+contextual(disch:=try exact dqd)only[evs0,simprocAttr,Cg,Ca,Ch,results223,e0,e1,e2,e6,e7,e8,c1,c2,bw,hE,hP,hT,hA,k1,k2,k3,k4,frA,A3]
 have k4:((D:Int) == 0)=false:=bC
 rw [if_neg bX] at ab;rw [ab];simp (maxSteps:=10^6)+contextual(disch:=try exact dqd)only[evs0,simprocAttr,Cg,Ca,Ch,results223,e0,e1,e2,e6,e7,e8,c1,c2,bw,k1,k2,k3,k4,frA,Es]):p:=h
def Ya3 (h:p:=by
 simp (maxSteps:=10^6)+contextual(disch:=try exact dqd)only[ev0,simprocAttr,Cg,Ca,Ch,results54,d0',q0];refine loop1 (P:=prog) (fun x st=>st.T.length=25/\(x.1<=n.natAbs)/\(x.2.1++dig x.1=dig n.natAbs)/\(Ba st.tk x.2.2 1=true)/\getT st.T 0=.int n/\getT st.T 2=.ref 0 0 0/\getT st.T 3=.prim (.int .u64 (x.1:Nat))/\getT st.T 4=.frz (x.2.1.map digC) x.2.2/\st.S=[⟨0,[.bool false,.frz [] .nilc]⟩]) (fun x=>x.1) (fun x=>zA n) (n.natAbs,[],.nilc) ?_ ?_;case refine_2=>exact ⟨rfl,Cb _,rfl,rfl,rfl,rfl,rfl,rfl,rfl⟩
 rintro ⟨u,out,c⟩ ⟨T,S',tk',n'⟩ ⟨hl,hu,he,ae,e0,e2,e3,e4,eS⟩ IH;simp only at hu he ae e0 e2 e3 e4 eS;subst eS;obtain ⟨g,hg,hT⟩:=Aw hl;rw [hg] at e0 e2 e3 e4;subst hT;clear hg hl;have hlen:=Amg he hN;have hr:=Gr out;have cg:=B0 ae;by_cases h0:u=0
 ·have d1:decide ((u:Int) > 0)=false:=aB
  subst h0;have hd:=Ahs he;subst hd;cases d2:decide (n<0) with
  | true =>
   simp (maxSteps:=10^6)+contextual(disch:=try exact dqd)only[ev0,simprocAttr,Cg,Ca,Ch,results54,e0,e2,e3,e4,d1,d2];simp [zA,bigA,digA,d2]
  | false =>
   simp (maxSteps:=10^6)+contextual(disch:=try exact dqd)only[ev0,simprocAttr,Cg,Ca,Ch,results54,e0,e2,e3,e4,d1,d2];simp [zA,bigA,digA,d2]
 ·have d1:decide ((u:Int) > 0)=true:=aB
  have lw:¬ ((10000:Int)=0):=aA
  have cj:(out.map digC).length+1<=1048576:=aB
  have q1:(u:Int).tmod 10000=((u % 10000:Nat):Int):=by
   rw [F5 aA]; omega
  have q2:Ce.wrap ((u % 10000:Nat):Int)=((u % 10000:Nat):Int):=Ac aD;have q3:hG.wrap ((u:Int).tdiv 10000)=((u / 10000:Nat):Int):=by
   rw [C9 aA,Wg aA aA]; omega
  have hs:=Aht he h0;simp (maxSteps:=10^6)+contextual(disch:=try exact dqd)only[ev0,simprocAttr,Cg,Ca,Ch,results54,e0,e2,e3,e4,d1,lw,q1,q2,q3,hr];exact IH (u / 10000,out++[((u % 10000:Nat):Int)],A4 tk' c 1) _ aF ⟨rfl,aE,hs,cg,aC,aC,aC,aC,aC⟩):p:=h
def Ya4 (h:p:=by
 obtain ⟨y,hy⟩:∃ y,y=qF.minus a0 r0:=⟨_,rfl⟩;have oy:qF.ok y.1:=by rw [hy]; exact Da.minus _ _ oa0 or0
 rw [ah,<- hy] at jt;have p7:Ce.wrap ((p.length:Int)+1)=(((p++[y.1]).length:Nat):Int):=bR
 have dn:=ag.T.fa;have js:=ag.T.costE;have ql:entAt S' (S.length+2) I.ec=some (flat ga0 (p++a0 :: v)):=Za3i
 have pp:=Aq (ce:=ga0) ga1 (D8 (p:=p) (u:=v) (x:=a0));have hrt:=Aq (ce:=ga0) ga1 b9;have dw:=ag.E16;have dj:=Lu S' tk' n' iq eq _ a0 r0 oa0 or0 dn;have hg1:=D9 (c:=y.2) dn;rw [<- hy] at dj;obtain ⟨S1a,ku⟩:∃ S1a,S1a=flS S' iq eq y.2:=⟨_,rfl⟩;have je:=ag.flag (S':=flS S' iq eq y.2) (fun j hj=>ga6 hj) Be dn.fS;rw [<- ku] at dj hg1 je;have qo:entAt S1a (S.length+2) I.ec=some (flat ga0 (p++a0 :: v)):=Za2c
 have ho:=A9 (ce:=ga0) ga1 (l:=p++a0 :: v) (k:=p.length) (q':=y.1) (by simp);rw [Gh] at ho;have fj:=je.cost (k':=p++y.1 :: v) (by simp) (fun q hq=>by
  rcases Cr.1 hq with h|h
  ·exact ag.T.okc q cJ
  ·rcases Cy.1 h with rfl|h
   ·exact oy
   ·exact ag.T.okc q cJ)
 rw [az.2.2] at fj;have jx:∀ x,Lv S'.length (put S1a (S.length+2) x)=put S1a (S.length+2) x:=fun x=>Fa Za2d;simp (maxSteps:=10^6)+contextual(disch:=try exact dqd)only[evg1,simprocAttr,Cg,Ca,Ch,ga29,e0,e1,e2,e7,e10,e11,e12,e14,e15,e16,e18,e19,e83,e84,e85,e194,e195,c2,c6,c7,c7b,p7,qk,ju,ql,pp,hrt,dw,yk,dj,hg1,qo,ho,jx,Ek,xfs,puQ,tkQ,ga1,ga5];exact IH (put S1a (S.length+2) ⟨I.ec,flat ga0 (p++y.1 :: v)⟩,n'+ua4,p++[y.1],v,Cj fq y.2) _ aF ⟨rfl,Za0l,Za0a,Za0o,bW⟩):p:=h
def Ya5 (h:p:=by
 have c1:((y:Int) != 0)=true:=aS
 have hz:¬ ((y:Int)=0):=aA
 have hm:(x:Int).tmod (y:Int)=((x % y:Nat):Int):=dB
 simp (maxSteps:=10^6)+contextual(disch:=try exact dqd)only[evs0,simprocAttr,Cg,Ca,Ch,results223,e0,e1,e2,e6,e7,e8,c1,hz,hm];have hlt:=Sc x (by omega:0<y);exact IH (y,x % y) _ aF ⟨rfl,dS,hy,aE,aZ⟩):p:=h
def Ya6 (h:p:=by
 subst eS;obtain ⟨g,hg,hT⟩:=Aw hl;rw [hg] at e33 e34 e35;subst hT;clear hg hl;by_cases hlt:i<l.length
 ·have d1:decide ((i:Int)<(l.length:Int))=true:=aQ
  obtain ⟨x,hx⟩:=Ah hlt;have hx':=E5 hx;have hw:=Db (i:=i) aA;rw [Av hx] at hn;simp only [allD] at hn;simp (maxSteps:=10^6)+contextual(disch:=try exact dqd)only[ev0,simprocAttr,Cg,Ca,Ch,results51,e33,e34,e35,d1,digA,hx',hw];refine ⟨fun h1=>?_,fun h1=>⟨fun h2=>?_,fun h2=>?_⟩⟩
  ·rw [hn,if_pos (by simp [h1])]
  ·rw [hn,if_pos (by simp only [h1,h2]; rfl)]
  ·exact IH (i+1) _ aF ⟨rfl,hlt,Za2f,aC,aC,aC,aC⟩
 ·have d1:decide ((i:Int)<(l.length:Int))=false:=aQ
  have he:i=l.length:=aA
  rw [he,Fh] at hn;simp (maxSteps:=10^6)+contextual(disch:=try exact dqd)only[ev0,simprocAttr,Cg,Ca,Ch,results51,e33,e34,e35,d1,digA];exact hn.symm):p:=h
def Ya7 (h:p:=by
 have hsz:(ini.toArray.push o).size=ini.toArray.size+1:=by simp
 rw [hsz];have zo:Ox (ini.toArray.size+1) false=(Ox ini.toArray.size false).push false:=by
  rw [Array.replicate_succ]
 rw [zo];refine Aa4 hg (fun j hj=>?_) (fun e he=>?_) (fun i o' d7=>?_) _ _ _ _ (by simp) (fun j hj=>?_) hw
 ·have:=df j bI;rw [nq]; simpa using this
 ·have:=hla e (by rw [nq] at he; simpa using he);simpa using this
 ·have bj:=(Ci.1 d7).1;have:=hde i eV;rw [d7] at this;refine ⟨fun e he=>this.1 e he,fun g w hgw=>?_⟩;have h3:=this.2;simp only [hgw] at h3;simpa using h3
 ·rw [Fc,Array.getElem?_replicate] at hj;split at hj <;> simp at hj):p:=h
def Ya8 (h:p:=by
 by_cases ae:Bm st a=true
 ·simp only [ae,if_true];constructor
  ·rintro ⟨n,h⟩;split at h
   ·rename_i s1 h1;have e:@evOs (gM (mdOf a)) P (Hs (mdOf a) P (cL P)) a a st=some s1:=Bn (G:=gM _) (Ac7 n).pure h1;rw [e];simp only [B6] at h ⊢;obtain ⟨s,h1,h2⟩:=h;exact ⟨s,Bn (Ac7 n) h1,h2⟩
   ·simp at h
  ·intro h;split at h
   ·rename_i s1 h1;simp only [B6] at h;obtain ⟨s,h2,h3⟩:=h;obtain ⟨n,hn⟩:=Zn h1;obtain ⟨m,hm⟩:=Zm h2;refine ⟨max n m,?_⟩;rw [Bn (G:=gM _) (D1 (show n<=max n m by omega)).pure hn];simp only [B6];exact ⟨s,Bn (D1 (show m<=max n m by omega)) hm,h3⟩
   ·simp at h
 ·simp [ae]):p:=h
def Ya9 (h:p:=by
 have dk:p.length=W:=gj;refine ag.T.add (b:=c+i) (f:=fb) ?_ ?_ hbF ?_ (by show rowZ.length=p.length; omega) orowZ (fun q hq=>?_) ?_ (ag.T.fa.of (jg iq aA aA (fun _=>⟨aA,aA⟩))) hAp Za36 (by show c+i<p.length; omega)
 ·rw [az.1,az.2.1,htF,wm]; simp only [az.2.2,dk,df,ii,fk,intA]
 ·rw [hrF]; simp only [dk]
 ·rw [Aa (jg (L+1) aA aA (fun h=>⟨by have:=ag.low.ir (hne h); omega,by have:=ag.low.ib (hne h); omega⟩))]; exact ag.E16
 ·have bw:=ag.T.ap.row q hq;have hq2:=ag.low.row q hq;exact jg q.1 aA (by have:=ik.2.2 q hq; omega) (fun _=>⟨bw.2.1,bw.2.2.2.1⟩)
 ·exact jg _ (by have:=ag.low.ic; omega) aA (fun _=>⟨ag.T.ap.rc.symm,ag.T.ap.cb⟩)):p:=h
def Yaa (h:p:=by rw [if_pos cC] at ab;rw [ab];simp (maxSteps:=10^6)+contextual(disch:=try exact dqd)only[evs0,simprocAttr,Cg,Ca,Ch,results223,e0,e1,e2,e6,e7,e8,c1,c2,hz,w5,w6,bw,hE,hP,hT,hA,k1,k2,frA,A3]):p:=h
def Yab (h:p:=by rw [if_pos cH] at ab;rw [ab];simp (maxSteps:=10^6)+contextual(disch:=try exact dqd)only[evs0,simprocAttr,Cg,Ca,Ch,results223,e0,e1,e2,e6,e7,e8,c1,c2,hz,w5,w6,bw,hE,hP,hT,hA,k1,frA,A3]):p:=h
def Yac (h:p:=by rw [if_pos cC] at ab;rw [ab];simp (maxSteps:=10^6)+contextual(disch:=try exact dqd)only[evs0,simprocAttr,Cg,Ca,Ch,results223,e0,e1,e2,e6,e7,e8,c1,c2,bw,hE,hP,hT,hA,k1,k2,frA,A3]):p:=h
def Yad (h:p:=by rw [if_pos cH] at ab;rw [ab];simp (maxSteps:=10^6)+contextual(disch:=try exact dqd)only[evs0,simprocAttr,Cg,Ca,Ch,results223,e0,e1,e2,e6,e7,e8,c1,c2,bw,hE,hP,hT,hA,k1,frA,A3]):p:=h
def Yae (h:p:=by
 have hw2:Ce.wrap (x+c+y)=x+c+y:=Ac aD;have ya:Ce.wrap ((x+c+y).tdiv 10000)=(x+c+y).tdiv 10000:=by
  rw [C9 aA]; exact Ac aD
 simp (maxSteps:=10^6)+contextual(disch:=try exact dqd)only[ev0,simprocAttr,Cg,Ca,Ch,results265,e1,e5,e6,e20,e21,e22,digA,d2,d3,hx',mn,jp,hw1,hw2,ya,lw,hr];exact IH (i+1,zs++[(x+c+y).tmod 10000],(x+c+y).tdiv 10000,A4 tk' cp 1) _ aF ⟨rfl,aE,hI.step hx (by rw [hy]; rfl) hxk hyk rfl,cg,aC,aC,aC,aC,aC,aC,aC⟩):p:=h
def Yaf (h:p:=by
 have ya:Ce.wrap ((x+c).tdiv 10000)=(x+c).tdiv 10000:=by
  rw [C9 aA]; exact Ac aD
 simp (maxSteps:=10^6)+contextual(disch:=try exact dqd)only[ev0,simprocAttr,Cg,Ca,Ch,results265,e1,e5,e6,e20,e21,e22,digA,d2,d3,hx',jp,hw1,ya,lw,hr];exact IH (i+1,zs++[(x+c).tmod 10000],(x+c).tdiv 10000,A4 tk' cp 1) _ aF ⟨rfl,aE,hI.step (y:=0) hx (by rw [Ae,E9 aE]; rfl) hxk aE aE,cg,aC,aC,aC,aC,aC,aC,aC⟩):p:=h
def Yag (h:p:=by
 refine ⟨hl2.os,hl2.tape,hl2.output,hl2.size,rfl,Nat.le_succ_of_le hl2.n,fun x o hx hm=>?_,hl2.cell,hl2.keep,hl2.shape,fun id e' he hn=>?_,hl2.tok⟩
 ·rcases V4 hm with h|h
  ·exact hl2.mt x o hx h
  ·omega
 ·rcases Jv he with ⟨h1,h2⟩|⟨h1,h2⟩
  ·subst h2;have:=hl2.n;simp only at this hn;omega
  ·obtain ⟨w1,w2,w3,w4⟩:=hl2.ent id e' h2 hn;refine ⟨w1,w2,w3,?_⟩;simp only [Cx.rev];rw [if_neg aA];exact w4):p:=h
def Yah (h:p:=by simp only [ni,B6,Cc] at bg;obtain ⟨cs,-,-,rfl⟩:=bg;simp only;rw [Ae,Ae,Cp aA]):p:=h
def Yai (h:p:=by obtain ⟨i,hi⟩:=List.getElem?_of_mem hp;have bj:=(Fq.1 hi).1;obtain ⟨r,hr⟩:=Ah (show i<t.rows.length by rw [<- h.nids]; exact bj);exact A5 (h.rowE i p r Za4i hr)):p:=h
def Yaj (h:p:=by
 cases c with
 | unk=>trivial
 | tight=>exact hc
 | nilc=>exact hc
 | nl=>exact hc
 | nn=>exact hc
 | tok id ep sz =>
  obtain ⟨k,h1,h2,h3⟩:=hc;obtain ⟨k',h4,h5,h6⟩:=h.tok id k h1;refine ⟨k',h4,aA,fun e=>?_⟩;rcases h3 aA with h7|⟨b,cs,t,ea,hp,hb,hl⟩
  ·exact .inl h7
  ·obtain ⟨cs',h8,h9⟩:=h.shape b cs t _ hb;exact .inr ⟨b,cs',t,ea,by rw [h6 aA,hp],h8,aA⟩):p:=h
def Yak (h:p:=by
 have c1:(sysE l != 0)=false:=aS
 simp only [ansC,lsC,ceW,Au,B2,Co,Ct] at hA;simp only [Au,B2] at hC hV;refine opP func23 ntmps23 (hp3:=rfl) ?_;simp (maxSteps:=10^6)+contextual(disch:=try exact dqd)only[ev1,simprocAttr,Cg,Ca,Ch,results23,Au,B2,hC,hV,hA,c1,h0];try (intro h; exact absurd h aL)):p:=h
def Yal (h:p:=by simp only [VR] at hx ⊢;obtain ⟨b,a,cap,h0,h0',h0'',hn,hx⟩:=hx;refine ⟨b,a,cap,h0,h0',h0'',Fi hn h.n,fun e' he mi=>?_⟩;obtain ⟨e,h1,h2,h3⟩:=h.ent id e' he aA;obtain ⟨g1,cs,t,g2,g3⟩:=hx e h1 aA;obtain ⟨cs',g4,g5⟩:=h.shape b cs t _ g2;exact ⟨by rw [h3]; exact g1,cs',t,g4,aA⟩):p:=h
def Yam (h:p:=by subst mb;have hT c' S tk k:=V2 S tk k (zs++[c]) c' aB;rw [hI.done hle] at hT;simp only [Ft,Cm,Cw,digC,digA] at hT;simp (maxSteps:=10^6)+contextual(disch:=try exact dqd)only[ev0,simprocAttr,Cg,Ca,Ch,results265,e1,e5,e6,e20,e21,e22,digA,d2,hr,hT]):p:=h
def Yan (h:p:=by
 rename_i t' l' c' ni;simp only [ni,B6,Prod.exists] at bg;obtain ⟨l0,sz0,cs0,-,hh⟩:=bg;split at hh
 ·simp only [Cc] at hh;obtain ⟨-,rfl⟩:=hh;rfl
 ·simp only [Cc] at hh;obtain ⟨-,rfl⟩:=hh;simp only;rw [Ae,Ae,Cp aA]):p:=h
def Yao (h:p:=by have hq:=me.h;have:=Qf (P:=P) (fn:=fn) (st:=st) (k:=k) (id:=id) (ops:=ops.toArray) eJ eI aI;simp only [iG,hq] at this;exact this):p:=h
def Yap (h:p:=by refine ⟨rfl,rfl,rfl,rfl,rfl,rfl,rfl,by simp [Cx.tok],by simp [Cx.tok,Hq],fun i hi=>Za3g,fun i k hk=>?_⟩;have hlt:=Bb hk;refine ⟨k,?_,Cb _,fun _=>by simp [Hq]; omega⟩;simp only [Cx.tok];rw [Ae] at hk ⊢;rw [Cp hlt]; exact hk):p:=h
def Yaq (h:p:=by
 obtain ⟨ex,s2⟩:=x;cases ex with
 | normal=>exact absurd h (hne s2)
 | exit id=>rfl
 | ret=>rfl):p:=h
def Yar (h:p:=by rw [cw] at hx;simp only [Act.put,Om] at hx;rw [List.getElem?_set_ne (fun h=>gn (by rw [cw,h]))] at hx;exact hx):p:=h
def Yas (h:p:=by have hd:=Int.emod_add_mul_ediv (r*10000+x) b;rw [Int.add_mul,I7,<- F1,Fp ((r*10000+x) / b)];generalize b*((r*10000+x) / b)=t at *;generalize (r*10000+x) % b=u at *;rw [F1];generalize val (out.drop m)*b=w at *;omega):p:=h
def Yat (h:p:=by unfold Oper.wp;rw [hrun];refine Calls.mono hC ?_;rintro e' w' ⟨v,C',rfl,rfl,k1,k2,k3,k4,k5,k6⟩;exact hn v C' k1 k2 k3 k4 k5 k6):p:=h
def Yau (h:p:=by exact Pp rfl (Aph S l vars fl k iq eq c W nz z.1 ⟨hl,mf,hv,hc,ei,mh,sj,t7⟩ oz Φ i bj r hr sl r7 t1 I cp tk' fk hcl df ii ae az ik L m0 nu u hU ou SX nx _ fm hR back _ rfl rfl rfl rfl rfl rfl rfl rfl rfl rfl rfl h18 rfl rfl rfl rfl rfl rfl rfl)):p:=h
def Yav (h:p:=by
 split at he
 ·rename_i ae;simp only [ae,if_true];split at he
  ·rename_i s1 h1;rw [Bn (G:=gM _) h.pure h1];simp only [B6] at he ⊢;obtain ⟨x,h1,h2⟩:=he;exact ⟨x,Bn h h1,h2⟩
  ·simp at he
 ·simp at he):p:=h
def Yaw (h:p:=by
 simp only [Au] at hC;have c1:(sysE l != 0)=true:=aS
 refine opP func23 ntmps23 (hp3:=rfl) ?_;simp (maxSteps:=10^6)+contextual(disch:=try exact dqd)only[ev1,simprocAttr,Cg,Ca,Ch,results23,Au,hC,c1,h0]):p:=h
def Yax (h:p:=by
 have lu:=grownCap_ge w 1 0 3;refine ⟨_,rfl,Aev (zs:=[x]) hbase (An w.drew _) lu (grownCap_le_maxLen w 1 0 _ aA) ?_ ?_,((Fb _ _).drew).alloc hbase _⟩
 ·rw [n9]; simp [size_zeroCells,z7]; omega
 ·simp):p:=h
def Yay (h:p:=by
 split at ho
 ·rename_i hn;rw [if_pos hn];unfold runN at ho ⊢;split at ho
  ·split at ho
   ·rename_i q1 q2;rw [one q1,one q2]; exact ho
   ·simp at ho
  ·exact one ho
 ·rename_i hn;rw [if_neg hn];exact one ho):p:=h
def Yaz (h:p:=by exact IH (put S3 S.length ⟨k,ga0 y.1⟩,n2+1+ua4+ua3,P++[r0],U,some (P.length,y.1),Cj fq (Cj y.2 d.2)) _ aF ⟨rfl,ie,ja,hTn,⟨_,Ag aE,ga1 _,fun bi' q h=>Za4w⟩,dL,fun j h1 h2=>Za51,aZ⟩):p:=h
def Ya00 (h:p:=by
 cases hp:ops[j]? with
 | none=>rw [hp] at ck; simp at ck
 | some p =>
  rw [hp] at ck;refine confl j p hp ?_ ?_ hne
  ·rcases dp with dp|dp <;> simp [conf,ck,dp]
  ·rcases dp with dp|dp <;> simp [conf,ck,dp]):p:=h
def Ya01 (h:p:=by
 refine ⟨rfl,rfl,by simp,fun r h=>aP,fun r h=>aP,fun q h=>?_,fun i h=>aM,fun j=>?_,fun i h=>aM,rfl⟩
 ·rw [(Ih.1 h).2]; exact w.1
 ·rw [Aff w.2];split
  ·show (0:Rat)=- 0;grind
  ·rfl):p:=h
def Ya02 (h:p:=by
 rcases B5 hu with ⟨e,-⟩|⟨-,hu⟩
 ·omega
 ·exact h.high j u hj hu):p:=h
def Ya03 (h:p:=by
 have hb:0<B:=aA
 subst h;constructor
 ·rw [Int.add_comm,Int.add_mul_ediv_right _ _ aA,Int.ediv_eq_zero_of_lt h0 h1]; omega
 ·rw [Int.add_comm,Int.add_mul_emod_self_right,Int.emod_eq_of_lt h0 h1]):p:=h
def Ya04 (h:p:=by rw [hc] at hC;simp only [digA] at hC hM;simp (maxSteps:=10^6)+contextual(disch:=try exact dqd)only[ev1,simprocAttr,Cg,Ca,Ch,results260,iq1,iq2,iq3,iq4,iq5,zA,bigA,digA,d1,hC,hM]):p:=h
def Ya05 (h:p:=by simp only [VR] at hx ⊢;obtain ⟨b,h0,hn,hx⟩:=hx;refine ⟨b,h0,Fi hn h.n,fun e' he mi=>?_⟩;obtain ⟨e,h1,h2,h3⟩:=h.ent id e' he aA;rw [h3]; exact hx e h1 aA):p:=h
def Ya06 (h:p:=by
 rcases hc with hc|⟨cs,t,ha,hp,hb,hl⟩
 ·exact .inl hc
 ·exact .inr ⟨b,cs,t,ha,Za1q,hb,hl⟩):p:=h
def Ya07 (h:p:=by have:=hle.trans (Le.of_below (C:=C1) hbel);rw [show ({ C1.hid arr t with av:=C.av } : Cx)=C1.at (C1.w.alloc (.cells arr t)) from by unfold Cx.hid Cx.at; rw [hle.av]];exact this):p:=h
def Ya08 (h:p:=by
 rcases Cy.1 h with rfl|h
 ·exact hs.1
 ·exact ih.1 q h):p:=h
def Ya09 (h:p:=by simp (maxSteps:=10^6)+contextual(disch:=try exact dqd)only[ev1,simprocAttr,Cg,Ca,Ch,results261,ratA,digA,o8,o9,a0c,de,bh,hD,hO,cl,G4,F2]):p:=h
def Ya0a (h:p:=by
 have h3:=hD.t2 t fun j hj=>ht j ((ao j).2 (.inr hj));cases d8:o.dst with
 | none=>simp only [putT]; exact h3
 | some d =>
  simp only [putT];rw [Bx (fun x=>hne cO)];exact h3):p:=h
def Ya0b (h:p:=by exact IH (S3,n2+1+ua4+ua3,P++[r0],U,some (bi,least),Cj fq (Cj y.2 d.2)) _ aF ⟨rfl,ie,ja,tf,⟨_,Za45,ga1 _,fun bi' q h=>Za4y⟩,aE,fun j h1 h2=>Za2r,aZ⟩):p:=h
def Ya0c (h:p:=by unfold apO;rw [h]; simp only [hl];rw [if_pos ⟨aA,by simp [roomy]⟩];simp only [apO2,hE];rw [if_pos ⟨trivial,h0⟩];rw [if_pos ⟨aA,by simpa [roomy] using h1⟩]):p:=h
def Ya0d (h:p:=by rw [Fy] at hc;obtain ⟨c',ek,rfl⟩:=hc;rw [O5] at ek;obtain ⟨r,hr,ek⟩:=ek;exact Cz.1 (Cz.1 hp r hr) c' ek):p:=h
def Ya0e (h:p:=by
 simp only [Instr.indexAt,asIntOf,Fe,Im,Ea,Bf he];have:(0:Int)<=(k:Int)/\(k:Int)<(n:Int):=aA
 simp [Oq,this,Eg hs,Dl]):p:=h
def Ya0f (h:p:=by refine (G0 hc dc ho fun u C2 k1 k2 k3 k4 k5 k6=>?_).1;simp only [A0] at h2;subst h2;exact hQ _ C2 (hle.trans k1) (dc.put k1 k2 k3 k4 k5 k6 hT)):p:=h
def Ya0g (h:p:=by
 by_cases h:c
 ·simp [h]; intro h'; cases h'
 ·simp [h]; rfl):p:=h
def Ya0h (h:p:=by
 by_cases h:c
 ·simp [h]; rfl
 ·simp [h]; intro h'; cases h'):p:=h
def Ya0i (h:p:=by simp only [A0] at h; subst h;refine .mk ?_;rw [Fe,Ds (by simp)];simp only [Ea,binOp,Fe,Nc he,Im]):p:=h
def Ya0j (h:p:=by simp (maxSteps:=10^6)+contextual(disch:=try exact dqd)only[ev1,simprocAttr,Cg,Ca,Ch,results251,ratA,digA,hA,hB,hK,hO1,hO2,td,hO4,fy,aw,hS,hM]):p:=h
def Ya0k (h:p:=by
 simp only [Instr.indexAt,asIntOf,Fe,Im,Ea,Bf (Dp he)];have:(0:Int)<=(k:Int)/\(k:Int)<(len:Int):=aA
 simp [this,Eg hs,Dl]):p:=h
def Ya0l (h:p:=by
 simp only [Act.put,Om] at hx;rw [List.getElem?_set] at hx;simp only [if_true] at hx;split at hx
 ·simpa using hx.symm
 ·simp at hx):p:=h
def Ya0m (h:p:=by simp only [B6,Cc] at h;obtain ⟨cs,_,rfl,rfl⟩:=h;exact ⟨Za07,Zax,hI.tk,slot rfl (fun _=>⟨_,_,_,rfl,hI.le⟩)⟩):p:=h
def Ya0n (h:p:=by rw [Y7];exact h x st hI fun y st' hlt hy=>ih (μ y) (hn ▸ hlt) y st' rfl hy):p:=h
def Ya0o (h:p:=by have:=A1 iv;rw [h5,M7] at this;simp at this ⊢;omega):p:=h
def Ya0p (h:p:=by simp (maxSteps:=10^6)+contextual(disch:=try exact dqd)only[ev1,simprocAttr,Cg,Ca,Ch,results251,ratA,digA,hA,hB,hK,hw1,hw2,d1,d2]):p:=h
def Ya0q (h:p:=by
 rcases (ao j).1 hj with rfl|hj
 ·exact j4 e he
 ·exact hD.closed j hj e he):p:=h
def Ya0r (h:p:=by simp (maxSteps:=10^6)+contextual(disch:=try exact dqd)only[ev1,simprocAttr,Cg,Ca,Ch,results229,iq1,iq2,iq3,iq4,iq5,Vm,digA]):p:=h
def Ya0s (h:p:=by rw [hr];simp (maxSteps:=10^6)+contextual(disch:=try exact dqd)only[evs0,simprocAttr,Cg,Ca,Ch,results220,frA,k1,k2,new1a,Hc]):p:=h
def Ya0t (h:p:=by simp (maxSteps:=10^6)+contextual(disch:=try exact dqd)only[ev1,simprocAttr,Cg,Ca,Ch,results107,hC,d0];simp [Kx,h0,linA,Ak]):p:=h
def Ya0u (h:p:=by simp only [over,B6] at h;obtain ⟨x,h,rfl⟩:=h;simp only [Co,over,Ak2 p h,Cu]):p:=h
def Ya0v (h:p:=by simp only [VR] at hx ⊢;obtain ⟨b,o,vs,e,hl,hr⟩:=hx;exact ⟨b,o,vs,e,hl.stays h.stays,PRs.stays h.stays cs vs hr⟩):p:=h
def Ya0w (h:p:=by
 cases hp:ops[j]? with
 | none=>rw [hp] at ck; simp at ck
 | some p =>
  rw [hp] at ck;have:=(confl j p hp eH eH aA).1 h4;omega):p:=h
def Ya0x (h:p:=by simp only [Cx.tok];obtain ⟨x,hx⟩:=Ah (l:=put C.tk id (ep+1)) (i:=id) (by rw [Am]; exact Bb h.2);rw [hx,Dy hx]):p:=h
def Ya0y (h:p:=by
 rw [b8,b7];intro q hq;rcases Bo hq with rfl|hq
 ·exact od
 ·rcases Bo hq with rfl|hq
  ·exact oo
  ·exact orowY q hq):p:=h
def Ya0z (h:p:=by have:=(Fq.1 hj).1;simp at this; omega):p:=h
def Ya10 (h:p:=by subst e;rw [if_pos rfl] at ab;rw [hp] at hq;simp only [A0] at ab hq;subst ab; subst hq; exact he):p:=h
def Ya11 (h:p:=by rw [if_pos rfl,if_pos rfl]; grind):p:=h
def Ya12 (h:p:=by obtain ⟨-,o',d7,-⟩:=Eb hi;have:=(Ci.1 d7).1;rw [Array.size_push] at this; omega):p:=h
def Ya13 (h:p:=by cases h;exact ⟨T,hr,Bk.2 ⟨0,rfl⟩⟩):p:=h
def Ya14 (h:p:=by refine ⟨[],?_,by simp [VRs],by simp⟩;cases a <;> simp [iM,loadCells,loadCellsFrom]):p:=h
def Ya15 (h:p:=by simp only [B6,Cc] at ho; obtain ⟨_,_,_,rfl⟩:=ho; exact ⟨_,rfl⟩):p:=h
def Ya16 (h:p:=by
 by_cases e:j=i
 ·subst e; rw [hx] at hy; simp only [A0] at hy; omega
 ·exact this.2.1 aA):p:=h
def Ya17 (h:p:=by simpa using this):p:=h
def Ya18 (h:p:=by
 have cd:¬ fn.body=none:=Za1s
 simp [execOp,e,resolve,hx,np,Deferred.ofValue,invoke,callFunc,g1,cj,cd]):p:=h
def Ya19 (h:p:=by
 rcases Bo ab with rfl|ab
 ·exact hl
 ·exact h.rowW r ab):p:=h
def Ya1a (h:p:=by refine ⟨e.1,e.2.trans ?_⟩;rw [C6,C6];exact Ku (Gi aA) (Gi aA) (Gi h3)):p:=h
def Ya1b (h:p:=by
 rw [Fm] at hc;rcases Cr.1 hc with hc|hc
 ·exact g1 c hc
 ·exact g2 c hc):p:=h
def Ya1c (h:p:=by subst e; exact ⟨Sr,fun _=>Cb _⟩):p:=h
def Ya1d (h:p:=by simp only [VR] at hx ⊢;obtain ⟨vs,e,hr⟩:=hx;exact ⟨vs,e,VRs.mono0 h caps vs.toList hr⟩):p:=h
def Ya1e (h:p:=by rw [k1.keep b (Ci.1 hb1).1 fun o hm=>bo.sr.own b o hm (di o)]; exact hb1):p:=h
def Ya1f (h:p:=by have:=congrArg List.length hl;simp only [List.length_drop,Ck,h.rows] at this;omega):p:=h
def Ya1g (h:p:=by simp only [VR] at hx ⊢;obtain ⟨vs,e,hr⟩:=hx;exact ⟨vs,e,VRs.mono h caps vs.toList hr⟩):p:=h
def Ya1h (h:p:=by rw [Iq dy,O9] at hj;simp [It,h3]; simpa using hj):p:=h
def Ya1i (h:p:=by
 cases d8:o.dst with
 | none=>simp only [putT]
 | some d =>
  simp only [putT];rw [Bx (fun x=>hne cO)]):p:=h
def Ya1j (h:p:=by
 obtain ⟨ex,s2⟩:=x;cases ex with
 | normal=>rfl
 | exit id=>exact absurd h (hne id s2)
 | ret=>rfl):p:=h
def Ya1k (h:p:=by simp only [VR] at hx ⊢;obtain ⟨vs,e,hr⟩:=hx;exact ⟨vs,e,VRs.mono0 h cs vs.toList hr⟩):p:=h
def Ya1l (h:p:=by rw [List.take_append,Fa aA,ur,I3,iR,Fu]):p:=h
def Ya1m (h:p:=by simp only [VR] at hx ⊢;obtain ⟨vs,e,hr⟩:=hx;exact ⟨vs,e,VRs.mono h cs vs.toList hr⟩):p:=h
def Ya1n (h:p:=by exact ⟨Gj (v:=w) (w':=C'.w) dV (hn w C' h2 h3 (h4.trans hr.S) h5 (h6.trans hr.n) h7),rfl⟩):p:=h
def Ya1o (h:p:=by
 obtain ⟨ex,s2⟩:=r;cases ex with
 | normal=>exact absurd he (hne s2)
 | exit id=>rfl
 | ret=>rfl):p:=h
def Ya1p (h:p:=by
 split at he
 ·rename_i r' s1 ho;rw [Kn (fun z hz=>B9 ih aA c _ z hz) ho];exact he
 ·simp at he):p:=h
def Ya1q (h:p:=by
 cases fx with
 | func g=>simp only [uu g rfl,x6,Bool.or_true]
 | _=>simp only [nw,Bool.or_true]):p:=h
def Ya1r (h:p:=by
 cases fx with
 | func g=>simp only [uu g rfl,sx,iI]
 | _=>simp only [nw,iI]):p:=h
def Ya1s (h:p:=by unfold mkA;rw [hz,hs,hb,intN_cast];simp only [mkB];rw [if_pos ⟨Cb _,h,yn,rfl⟩]):p:=h
def Ya1t (h:p:=by refine ⟨e.1,e.2.trans ?_⟩;rw [C6,C6];exact H2 (Gi aA) (Gi aA)):p:=h
def Ya1u (h:p:=by exact h.rowE j q r hq ab):p:=h
def Ya1v (h:p:=by simp only [A0,Cc] at h; obtain ⟨-,rfl⟩:=h; exact J9.refl _):p:=h
def Ya1w (h:p:=by rw [Fy] at he;obtain ⟨e',po,rfl⟩:=he;rw [Ib]; exact g2 e' po):p:=h
def Ya1x (h:p:=by rename_i h'; exact absurd h' (hb _)):p:=h
def Ya1y (h:p:=by simp only [B6,Cc] at bg;obtain ⟨cs,-,-,rfl⟩:=bg;simp):p:=h
def Ya1z (h:p:=by refine Na (by rw [<- jm,Vz]) iv fun e he=>?_;have:=dv e he;rw [Gw aA]; exact bm e this):p:=h
def Ya20 (h:p:=by unfold depsOf; rw [ho];exact Fy.2 ⟨e,List.mem_filter.2 ⟨eY,hb⟩,rfl⟩):p:=h
def Ya21 (h:p:=by
 have:n.natAbs<10000 ^ 5:=aA
 exact Fi this (Nat.pow_le_pow_right aA aA)):p:=h
def Ya22 (h:p:=by exact IH (i+1) _ aF ⟨rfl,aE,aW,aW,aW,aW,aW⟩):p:=h
def Ya23 (h:p:=by obtain ⟨q1,q2⟩:=res g1 h;simp only at q2; subst q2;simp only [cont,outA,q1]; rfl):p:=h
def Ya24 (h:p:=by simp only [A0,Cc] at h; obtain ⟨_,rfl⟩:=h; exact this):p:=h
def Ya25 (h:p:=by simp only [VR] at hx ⊢;obtain ⟨u,e,hr⟩:=hx;exact ⟨u,e,VR.mono0 h v u hr⟩):p:=h
def Ya26 (h:p:=by simp only [VR] at hx ⊢;obtain ⟨u,e,hr⟩:=hx;exact ⟨u,e,VR.mono h v u hr⟩):p:=h
def Ya27 (h:p:=by simp only [B6] at h;obtain ⟨v,h,hh⟩:=h;exact quiet v h hh):p:=h
def Ya28 (h:p:=by
 have hxs:x<listed.size:=aA
 simp [Ou,hxs] at h0 h1;rw [h0] at h1; cases h1):p:=h
def Ya29 (h:p:=by
 split at h
 ·rename_i h'; simp only [A0] at h; rw [h',h]
 ·cases h):p:=h
def Ya2a (h:p:=by rw [P9,h.len,gN,Li,this];exact hv):p:=h
def Ya2b (h:p:=by have:=cl.2.2 aA;have h2:=(hw c aA this.1).2 hlt;rw [this.2] at h2; simp at h2):p:=h
def Ya2c (h:p:=by exact Cb _):p:=h
def Ya2d (h:p:=by show RK P fn (.loop c) { st with S:=cutS (Nv c) m st.S } k=_;rw [hk.h]; rfl):p:=h
def Ya2e (h:p:=by unfold apO;rw [h]; simp only [hl];rw [if_pos ⟨aA,by simp [roomy]⟩];rfl):p:=h
def Ya2f (h:p:=by rename_i x hx;rw [hx] at h2; simp only [VR] at h2; subst h2;simpa using h):p:=h
def Ya2g (h:p:=by simp only [Cc] at e;exact ⟨h0,o',d7,by rw [e.1]; exact hd⟩):p:=h
def Ya2h (h:p:=by simp only [Cx.hid];rw [hle.av];exact ⟨fun h=>h.resolve_right hx,.inl⟩):p:=h
def Ya2i (h:p:=by show entAt SF _ _=_;rw [Aa (jg _ aA aA (fun _=>⟨aA,aA⟩))]; exact ag.Z):p:=h
def Ya2j (h:p:=by show nth SF j=_;rw [jg j aA aA (fun _=>⟨aA,aA⟩)]; exact ag.fr j h1 h2):p:=h
def Ya2k (h:p:=by simp [Instr.fieldAt,Bf hu,hfk,Oq,fieldPlace,Eg h2,h4,Dl,h1]):p:=h
def Ya2l (h:p:=by have:l.length≠0:=fun h'=>h (C5.1 h');simp; omega):p:=h
def Ya2m (h:p:=by have:=(Ih.1 hd).2; omega):p:=h
def Ya2n (h:p:=by have:=A1 aa;exact List.length_eq_one_iff.1 (by simpa using this.symm)):p:=h
def Ya2o (h:p:=by rw [md] at this; simp at this):p:=h
def Ya2p (h:p:=by simp [method,typeInfo,h1,h2,h3,h4,follow,receiverAt,Bf h5,Place.get]):p:=h
def Ya2q (h:p:=by exact ⟨hr.defers,v,h1,v,C',rfl,rfl,hle,hr.sr,hr.S,hr.tk,hr.n,h2⟩):p:=h
def Ya2r (h:p:=by rw [Ae] at h;exact (Ih.1 (Il h)).2):p:=h
def Ya2s (h:p:=by rw [if_pos aS] at h; exact absurd h h0):p:=h
def Ya2t (h:p:=by
 cases U with
 | nil=>simp at sk; omega
 | cons x u=>exact ⟨x,u,rfl⟩):p:=h
def Ya2u (h:p:=by rw [Fh,Ff (by simp)]; simp [val]):p:=h
def Ya2v (h:p:=by rwa [show o+(i+1)*sz=o+sz+i*sz by rw [O8]; omega] at this):p:=h
def Ya2w (h:p:=by obtain ⟨b',o',h1,h2,-⟩:=hcells j x hx;exact ⟨b',o',h1,h2⟩):p:=h
def Ya2x (h:p:=by simp only; show _ / ((1:Int):Rat)=_; rw [Rat.intCast_one]; grind):p:=h
def Ya2y (h:p:=by rw [Df e];exact ⟨.inr,fun h=>h.resolve_left fun x=>e x.symm⟩):p:=h
def Ya2z (h:p:=by rw [ho] at this;simp only at this;rw [cn] at this; simp at this):p:=h
def Ya30 (h:p:=by
 rcases B5 hu with ⟨-,e⟩|⟨e,-⟩
 ·omega
 ·exact absurd rfl e):p:=h
def Ya31 (h:p:=by
 split at he
 ·rename_i r' s1 ho;rw [out ho];exact he
 ·simp at he):p:=h
def Ya32 (h:p:=by exact sum_congr fun j _=>aJ):p:=h
def Ya33 (h:p:=by
 refine ⟨fun q h=>?_,fun j=>?_⟩
 ·exact Ya08
 ·cases j with
  | zero=>exact hs.2
  | succ j=>exact ih.2 j):p:=h
def Ya34 (h:p:=by
 refine ⟨0,?_,Cb _,fun _=>?_⟩
 ·simp only [Cx.tok,Ae]; simp
 ·exact Ya06):p:=h
def Ya35 (h:p:=by
 induction n using Ow with
 | _ n ih =>
  intro x st hn hI;exact Ya0n):p:=h
def Ya36 (h:p:=by
 by_cases e:i=k
 ·subst e;exact Ya11
 ·rw [if_neg e,if_neg (Od e)]; grind):p:=h
def Ya37 (h:p:=by
 cases cw:o.dst with
 | none=>rw [cw] at hx; exact hx
 | some d0 =>
  exact Yar):p:=h
end Go.Proofs.YthelkgdmgihhiaaGreat
