/- Part 1. -/
import Derived.KernelRfl
namespace Go.Proofs.YthelkgdmgihhiaaGreat
variable {p:Prop}
set_option linter.defProp false
def aB (h:p:=by first|rfl|simp only [getT,F6,Cn,Ct,digC,digA]):p:=h
def aA (h:p:=by omega):p:=h
def aG (h:p:=by first|rfl|simp only [getT,F6,Cn,Ct,and_self]):p:=h
def aD (h:p:=by unfold i64; omega):p:=h
def aE (h:p:=by first|omega|(dsimp only; omega)):p:=h
def aN (h:p:=by first|rfl|simp only [getT,F6,Cn,Ct,coefC,Ag]):p:=h
def aF (h:p:=by first|omega|(simp only; omega)):p:=h
def aU (h:p:=by first|rfl|simp only [getT,F6,Cn,Ct,and_self,digC,bigC,zB]):p:=h
def aC (h:p:=by simp; omega):p:=h
def aZ (h:p:=by first|rfl|simp only [getT,F6,Cn,Ct,strC,Bc,and_self]):p:=h
def aQ (h:p:=by simp only [tys,Oo]):p:=h
def bD (h:p:=by and_intros <;> first|rfl|simp only [getT,F6]):p:=h
def aH (h:p:=by simpa using hlt):p:=h
def aL (h:p:=by first|rfl|assumption):p:=h
def aI (h:p:=by simpa using h):p:=h
def cC (h:p:=by and_intros <;> first|rfl|simp only [getT,F6,Cn,Ct]):p:=h
def aS (h:p:=by simp only [VRs] at h):p:=h
def cZ (h:p:=by and_intros <;> first|rfl|simp only [getT,F6,Cn,Ct,digC,digA]):p:=h
def aJ (h:p:=by kernel_rfl):p:=h
def bL (h:p:=by first|rfl|simp only [getT,F6]):p:=h
def aR (h:p:=by decide +kernel):p:=h
def cD (h:p:=by rw [k1,k2,k3,decide_eq_false b4]; exact Nz):p:=h
def dP (h:p:=by first|rfl|simp only [getT,ew,F6,Cn,Ct,and_self]):p:=h
def aV (h:p:=by simp only; omega):p:=h
def bM (h:p:=by rw [iA]; exact h.len):p:=h
def aO (h:p:=by simp at h):p:=h
def bG (h:p:=by simp only [execOp,e]):p:=h
def eJ (h:p:=by rw [<- ot,gL x y]; exact (Nat.gcd_rec y x).symm ▸ gL y (x % y)):p:=h
def eK (h:p:=by simp only [evC,A3,Ch] at h; obtain ⟨_,rfl⟩:=h; exact hI):p:=h
def aW (h:p:=by simpa using h1):p:=h
def aK (h:p:=by decide):p:=h
def aX (h:p:=by simpa using h0):p:=h
def dA (h:p:=by simp only [nth,A3] at h; subst h; rfl):p:=h
def cE (h:p:=by rw [k1,k2,k3,decide_eq_true b4]; rfl):p:=h
def bH (h:p:=by simp only [PR] at hx):p:=h
def Za03 (h:p:=by show m<=(st.S++_).length; rw [Cs]; exact Fe hI.le (O1 _ _)):p:=h
def bI (h:p:=by simp only [PR] at h):p:=h
def Za06 (h:p:=by have:=t.b; simp only [Ci,Ig] at this; exact this.1):p:=h
def Za07 (h:p:=by and_intros <;> first|rfl|simp only [getT,Lp,F6,Cn,Ct]):p:=h
def bA (h:p:=by simpa using b1):p:=h
def bC (h:p:=by simpa using b2):p:=h
def cU (h:p:=by rw [<- gH]; simp [hu]):p:=h
def bN (h:p:=by simp only [PRs] at h):p:=h
def aT (h:p:=by cases h):p:=h
def Za0d (h:p:=by show (st.S++_).take m=S0; rw [Iy hI.le]; exact hI.S):p:=h
def aM (h:p:=by grind):p:=h
def Za0f (h:p:=by show (p++[y.1]).length+v.length=W; simp only [Cs,Cm,C7] at qf ⊢; omega):p:=h
def bE (h:p:=by simpa using b3):p:=h
def bF (h:p:=by simpa using b4):p:=h
def dB (h:p:=by rw [<- gH]; simp [ht]):p:=h
def eM (h:p:=by simp [execOp,e,resolve,hb,ha,invoke,builtin,nq,h1]):p:=h
def bK (h:p:=by simpa using hj):p:=h
def cV (h:p:=by rw [Im]; omega):p:=h
def eO (h:p:=by rw [Ae] at hx; exact Iq hx):p:=h
def bP (h:p:=by simp [nth] at h):p:=h
def Za0p (h:p:=by rw [kr,hlp]; simp only [Fh,Cp,Cz,F7]):p:=h
def Za0r (h:p:=by have:=t.b; simp only [Ci,Ig] at this; exact this.2):p:=h
def Za0s (h:p:=by simpa only [Fh,Cp,Cz,F7] using gg):p:=h
def dR (h:p:=by unfold B1; rw [ho]; simpa using x):p:=h
def bQ (h:p:=by simp only [VR]):p:=h
def bJ (h:p:=by simp [hx]):p:=h
def Za0w (h:p:=by rw [<- hg,gL x y]; exact (Nat.gcd_rec y x).symm ▸ gL y (x % y)):p:=h
def Za0y (h:p:=by rw [jP]; exact H8 (PRs.stays ag _ _ np) (PRs.stays ag _ _ bj)):p:=h
def cF (h:p:=by simp [Op.operands]):p:=h
def cG (h:p:=by rw [k1,k2,k3]; rfl):p:=h
def dC (h:p:=by have:=az.iq; omega):p:=h
def bR (h:p:=by simpa using la):p:=h
def Za14 (h:p:=by cases b <;> simp [eqA] at h ⊢; exact ⟨h.1,Mw h.2⟩):p:=h
def cH (h:p:=by simp at hi; omega):p:=h
def bT (h:p:=by simpa using h2):p:=h
def bV (h:p:=by simpa using hneg):p:=h
def dS (h:p:=by simp only [Ct,VRs]):p:=h
def Za19 (h:p:=by intro m' em; simp only [A3] at em; subst em; exact hc):p:=h
def bW (h:p:=by simpa using hl):p:=h
def Za1b (h:p:=by unfold Lp; exact D2 (sz:=4) (f:=fun q=>ceW (qF.rat q)) (fun _=>rfl) l):p:=h
def cI (h:p:=by rw [k1,k2]; rfl):p:=h
def bX (h:p:=by simp only [VRs]):p:=h
def Za1e (h:p:=by simp only [execOp,e,Fv,g1,Fj,I1]):p:=h
def bZ (h:p:=by simpa using hn):p:=h
def Za1g (h:p:=by simp only [Gx,okZ,hla,hlb]; simp [dq]; omega):p:=h
def Za1h (h:p:=by cases b <;> simp [eqA] at h ⊢; exact Mw h):p:=h
def dD (h:p:=by rw [hsz]; exact cd):p:=h
def cJ (h:p:=by simp only [evC]):p:=h
def bS (h:p:=by simp [wrS]):p:=h
def cK (h:p:=by simpa using hm):p:=h
def cM (h:p:=by simpa using hz):p:=h
def cN (h:p:=by rw [Bj,h]; rfl):p:=h
def cO (h:p:=by simpa using jo):p:=h
def cP (h:p:=by rw [k1]; rfl):p:=h
def cQ (h:p:=by simpa using cu):p:=h
def cR (h:p:=by simp [wrT,ak]):p:=h
def dT (h:p:=by simp only [sum]; grind):p:=h
def Za1z (h:p:=by simp only [Cx.tok,if_true]; exact hp):p:=h
def dE (h:p:=by simp at h ⊢; omega):p:=h
def eP (h:p:=by rw [hψ]; simp only; omega):p:=h
def Za22 (h:p:=by intro hh; rw [hh] at g3; simp at g3):p:=h
def dU (h:p:=by unfold evQ; rw [ho]):p:=h
def cW (h:p:=by simpa using hpq):p:=h
def Za27 (h:p:=by simp only [gt_iff_lt] at h; rw [h3] at h; simp at h):p:=h
def eQ (h:p:=by rw [xe] at hw; simp at hw):p:=h
def eR (h:p:=by simpa only [evC] using he):p:=h
def eU (h:p:=by rw [hf] at h'; cases h'):p:=h
def cA (h:p:=by simp [hq]):p:=h
def Za2c (h:p:=by rw [mf]; exact Dk.times _ _ ou ow):p:=h
def Za2d (h:p:=by rw [ii]; exact Dk.minus _ _ oz oy):p:=h
def Za2e (h:p:=by rw [iA,iA]; exact h.len):p:=h
def dF (h:p:=by simpa using hi):p:=h
def dG (h:p:=by simpa using hx):p:=h
def Za2h (h:p:=by rw [e] at m9; simp at m9; omega):p:=h
def Za2i (h:p:=by unfold B1 at hd; rw [ho] at hd; simpa using hd):p:=h
def eV (h:p:=by rw [ak] at hb; cases hb):p:=h
def dV (h:p:=by simp [execOp,e,hb]):p:=h
def dH (h:p:=by simp [evC] at h):p:=h
def dW (h:p:=by rintro a ⟨⟩; rfl):p:=h
def Za2n (h:p:=by rw [Ae] at hy; exact Iq hy):p:=h
def cB (h:p:=by simp [h]):p:=h
def dI (h:p:=by rw [Bj,hc]; rfl):p:=h
def Za2q (h:p:=by have h:=j2.T.costE; rw [bl.2.2] at h; exact h):p:=h
def dJ (h:p:=by simpa using hc):p:=h
def Za2s (h:p:=by rw [Am,j2.len,ah.len]; exact Cf _):p:=h
def Za2t (h:p:=by rw [hR]; unfold ansC; rw [Ol]; rfl):p:=h
def Za2u (h:p:=by rw [Ae] at hc; exact Iq hc):p:=h
def Za2v (h:p:=by rw [hn,if_neg (by simp only [h1,h2]; simp)]):p:=h
def eW (h:p:=by unfold maxLen; omega):p:=h
def dX (h:p:=by rw [hx.1]; simp):p:=h
def eX (h:p:=by simp only [VRs] at hx):p:=h
def eY (h:p:=by simp [Cx.alone] at hi):p:=h
def cX (h:p:=by assumption):p:=h
def dK (h:p:=by simpa using ar):p:=h
def Za32 (h:p:=by intro f args S tk n r he; simp [evF] at he):p:=h
def Za33 (h:p:=by simp [PRs,PR,iK]):p:=h
def dL (h:p:=by simpa using gy):p:=h
def dM (h:p:=by simpa using ck):p:=h
def Za36 (h:p:=by rw [lz]; omega):p:=h
def Za37 (h:p:=by rw [cr j h2.1,bj j h2.1]; exact bm j h1 h2):p:=h
def Za3a (h:p:=by rw [k1.av]; exact ja x o hx):p:=h
def Za3b (h:p:=by rw [Fv,D4 (by simp)]; exact h1):p:=h
def eZ (h:p:=by simpa [Am] using hi):p:=h
def Za3e (h:p:=by simp only [VRs]; exact ⟨h1,h2,trivial⟩):p:=h
def Za3f (h:p:=by unfold topV; rw [Fi,B3]; rfl):p:=h
def Za3g (h:p:=by rw [HI.out.rest]; exact Ov _ hb0):p:=h
def Za3h (h:p:=by simp [Cx.more,hr.S,hr.n]):p:=h
def Za3i (h:p:=by unfold topV; rw [C9]; rfl):p:=h
def Za3j (h:p:=by rw [ha]; exact if_neg (Nat.lt_irrefl m)):p:=h
def Za3m (h:p:=by show t1.rows.length+1<=1000000; omega):p:=h
def cY (h:p:=by rw [dm,x]):p:=h
def Za3o (h:p:=by rw [kK hbel (Gv hv)]; exact hv):p:=h
def dY (h:p:=by simpa using bh):p:=h
def Za3q (h:p:=by simp only [oneOf,VR]; exact ⟨_,rfl,h2⟩):p:=h
def fA (h:p:=by simp [conf,dd,df]):p:=h
def fB (h:p:=by simpa using hs.h2):p:=h
def dZ (h:p:=by rw [Am]; omega):p:=h
def Za3u (h:p:=by unfold Lp; rw [F8]; omega):p:=h
def eA (h:p:=by split <;> omega):p:=h
def Za3w (h:p:=by rw [setRow_other _ _ _ _ h]; exact hd):p:=h
def Za3x (h:p:=by simp [Cx.tok] at hi; simp [Jh]; omega):p:=h
def Za3y (h:p:=by simp [Op.operands,Call.operands,ak]):p:=h
def fC (h:p:=by have:=h.len; omega):p:=h
def Za40 (h:p:=by have h:=jq; rw [bl.2.2] at h; exact h):p:=h
def eD (h:p:=by simpa using hu):p:=h
def Za42 (h:p:=by rw [Array.toList_map]; exact L2 hρ _):p:=h
def eE (h:p:=by simpa using he):p:=h
def fD (h:p:=by simpa using hs.h):p:=h
def Za45 (h:p:=by rintro ⟨a,b,c⟩ ⟨⟩; rfl):p:=h
def Za46 (h:p:=by cases zs <;> simp [dotZ]):p:=h
def eF (h:p:=by simpa using h3):p:=h
def eG (h:p:=by simpa using g2):p:=h
def Za49 (h:p:=by unfold B1; rw [ho]; simpa using e):p:=h
def Za4a (h:p:=by rw [Oy]; omega):p:=h
def Za4b (h:p:=by rw [h.rows]; exact hi):p:=h
def fE (h:p:=by simp [Kq,e] at hm):p:=h
def fF (h:p:=by rw [hx.2]; simp):p:=h
def Za4e (h:p:=by rw [k1.av]; exact dx o):p:=h
def Za4f (h:p:=by rintro ⟨a,b⟩ ⟨⟩; rfl):p:=h
def fG (h:p:=by simp [over] at h):p:=h
def fH (h:p:=by simp [Rh]; omega):p:=h
def Za4i (h:p:=by simp [Cx.more,hr.n]):p:=h
def Za4j (h:p:=by cases t <;> simp [br]):p:=h
def Za4k (h:p:=by have:=hs.pos; grind):p:=h
def Za4l (h:p:=by have:=gA.pos; omega):p:=h
def Za4m (h:p:=by have:=tw.2.1; omega):p:=h
def fI (h:p:=by simpa using ho):p:=h
def Za4o (h:p:=by rw [Ac l7]; exact o5):p:=h
def Za4p (h:p:=by simpa [okZ] using h):p:=h
def dN (h:p:=by simp at hl):p:=h
def eH (h:p:=by simp [h.len]):p:=h
def fJ (h:p:=by simp [C0] at hi):p:=h
def fK (h:p:=by split <;> grind):p:=h
def Za4u (h:p:=by have:=hC.lt; omega):p:=h
def Za4v (h:p:=by rw [e1]; exact hrun):p:=h
def Za4w (h:p:=by have:=c8.1; omega):p:=h
def Za4x (h:p:=by have:=g2.1; omega):p:=h
def Za4y (h:p:=by simp [Op.bytesLess]):p:=h
def Za4z (h:p:=by rw [Aj]; exact h.nb):p:=h
def Za50 (h:p:=by rw [Ae]; exact hi):p:=h
def fL (h:p:=by simp [wrS,ak]):p:=h
def fM (h:p:=by simpa using cm):p:=h
def fN (h:p:=by simpa using g1):p:=h
def fO (h:p:=by rw [hNn,hD,hg]):p:=h
def fP (h:p:=by simpa using j7):p:=h
def fQ (h:p:=by simpa using sa):p:=h
def fR (h:p:=by simpa using j6):p:=h
def fT (h:p:=by simpa using lb):p:=h
def Za59 (h:p:=by rw [hψ]; exact h1):p:=h
def eI (h:p:=by rw [h]; rfl):p:=h
def Za5b (h:p:=by simp [entAt,nth]):p:=h
def Za5c (h:p:=by simp +contextual):p:=h
def fU (h:p:=by rw [fh]; simp):p:=h
def aP (h:p:=by rw [Aa aD]; omega):p:=h
def aY (h:p:=by rw [Aa aD]; rfl):p:=h
def Za5g (h:p:=by simp only [A3,Ch] at h; obtain ⟨rfl,rfl⟩:=h; exact ⟨rfl,Za36,oy⟩):p:=h
def dO (h:p:=by rw [Ic aA]; rfl):p:=h
def Za5i (h:p:=by simp only [A3,Ch] at h; obtain ⟨rfl,rfl⟩:=h; exact ⟨rfl,Za36,ol⟩):p:=h
def bU (h:p:=by rw [Aa aD]; simp):p:=h
def Za5k (h:p:=by by_cases e:j=n - 1; (· rw [e,hx,hy,i5]); exact om j aE):p:=h
def Za5l (h:p:=by rw [key j aA]; exact h.fr j h1 h2):p:=h
def Za5m (h:p:=by rw [Af aE,cr j h2.1,bj j h2.1]; exact bm j h1 h2):p:=h
def Za5n (h:p:=by rw [bg]; first|rfl|exact A1 dC):p:=h
def Za5o (h:p:=by rw [Ac (key _ aA)]; exact h.E15):p:=h
def Za5p (h:p:=by simp only [first]; rw [if_neg aA,if_neg aA]):p:=h
def Za5q (h:p:=by rw [Ac (key _ aA)]; exact h.Z):p:=h
def Za5r (h:p:=by rw [Ac (gb Sf.length (hoN 0 aA))]; exact B8):p:=h
def Za5s (h:p:=by rw [Ac (gb _ (pg _ aA aA))]; exact Ad hEf):p:=h
def Za5t (h:p:=by rw [if_neg aA,if_neg aA]):p:=h
def Ya0 (h:p:=by
 subst hM;refine Pj (P:=prog) (fun x st=>st.T.length=56/\(x.1.gcd x.2=g)/\(x.1<9223372036854775808)/\(x.2<9223372036854775808)/\getT st.T 0=.ref iq eq 0/\getT st.T 1=.int (M:Int)/\getT st.T 2=.int (D:Nat)/\getT st.T 6=.ref S.length k 0/\getT st.T 7=.int (x.1:Nat)/\getT st.T 8=.int (x.2:Nat)/\st.S=S++[⟨k,[.int 0,.int 0]⟩]/\st.tk=tk/\st.n=k+1) (fun x=>x.2) (fun x=>(frA r.1,QQ.flS S iq eq r.2,tk,k+1)) ((M:Int).natAbs,D) ?_ ?_;case refine_2=>exact ⟨rfl,fO,aA,aA,rfl,rfl,rfl,rfl,rfl,rfl,rfl,rfl,rfl⟩
 rintro ⟨x,y⟩ ⟨T,S',tk',n'⟩ ⟨hl,ot,hx,hy,e0,e1,e2,e6,e7,e8,eS,eT,eN⟩ IH;simp only at ot hx hy e0 e1 e2 e6 e7 e8 eS eT eN;subst eS eT eN;obtain ⟨g,hg,hT⟩:=Ao hl;rw [hg] at e0 e1 e2 e6 e7 e8;subst hT;clear hg hl;by_cases h0:y=0
 ·subst h0;have c1:(((0:Nat):Int) != 0)=false:=rfl;rw [Oz] at ot;subst ot;by_cases h1:1<x
  ·rw [if_pos h1,if_pos h1] at ab;have c2:decide ((x:Int) > 1)=true:=aC
   have hz:¬ ((x:Int)=0):=aA
   have v1:=Dr (M:Int) x;have v2:=Dr (D:Int) x;have w5:Ce.wrap ((M:Int).tdiv (x:Int))=(M:Int).tdiv (x:Int):=Aa aD;have w6:Ce.wrap ((D:Int).tdiv (x:Int))=(D:Int).tdiv (x:Int):=Aa aD;by_cases b1:(M:Int).tdiv (x:Int)<=-2147483648
   ·have k1:decide ((M:Int).tdiv (x:Int)<=-2147483648)=true:=bA
    rw [if_pos cP] at ab;rw [ab];simp (maxSteps:=10^6)+contextual(disch:=try exact dqd)only[evs0,simprocAttr,Cc,Ca,Cd,results223,e0,e1,e2,e6,e7,e8,c1,c2,hz,w5,w6,ca,hE,hP,hT,hA,k1,frA,A6]
   have k1:decide ((M:Int).tdiv (x:Int)<=-2147483648)=false:=bA
   by_cases b2:(M:Int).tdiv (x:Int) >= 2147483648
   ·have k2:decide ((M:Int).tdiv (x:Int) >= 2147483648)=true:=bC
    rw [if_pos cI] at ab;rw [ab];simp (maxSteps:=10^6)+contextual(disch:=try exact dqd)only[evs0,simprocAttr,Cc,Ca,Cd,results223,e0,e1,e2,e6,e7,e8,c1,c2,hz,w5,w6,ca,hE,hP,hT,hA,k1,k2,frA,A6]
   have k2:decide ((M:Int).tdiv (x:Int) >= 2147483648)=false:=bC
   by_cases b3:(D:Int).tdiv (x:Int) >= 2147483648
   ·have k3:decide ((D:Int).tdiv (x:Int) >= 2147483648)=true:=bE
    rw [if_pos cG] at ab;rw [ab];simp (maxSteps:=10^6)+contextual(disch:=try exact dqd)only[evs0,simprocAttr,Cc,Ca,Cd,results223,e0,e1,e2,e6,e7,e8,c1,c2,hz,w5,w6,ca,hE,hP,hT,hA,k1,k2,k3,frA,A6]
   have k3:decide ((D:Int).tdiv (x:Int) >= 2147483648)=false:=bE
   by_cases b4:(D:Int).tdiv (x:Int)=0
   ·have k4:((D:Int).tdiv (x:Int) == 0)=true:=bF
    rw [if_pos cE] at ab;rw [ab];simp (maxSteps:=10^6)+contextual(disch:=try exact dqd)only[evs0,simprocAttr,Cc,Ca,Cd,results223,e0,e1,e2,e6,e7,e8,c1,c2,hz,w5,w6,ca,hE,hP,hT,hA,k1,k2,k3,k4,frA,A6]
   have k4:((D:Int).tdiv (x:Int) == 0)=false:=bF
   rw [if_neg cD] at ab;rw [ab];simp (maxSteps:=10^6)+contextual(disch:=try exact dqd)only[evs0,simprocAttr,Cc,Ca,Cd,results223,e0,e1,e2,e6,e7,e8,c1,c2,hz,w5,w6,ca,k1,k2,k3,k4,frA,Gk]
  ·rw [if_neg h1,if_neg h1] at ab;have c2:decide ((x:Int) > 1)=false:=aC
   by_cases b1:(M:Int)<=-2147483648
   ·have k1:decide ((M:Int)<=-2147483648)=true:=bA
    rw [if_pos cP] at ab;rw [ab];simp (maxSteps:=10^6)+contextual(disch:=try exact dqd)only[evs0,simprocAttr,Cc,Ca,Cd,results223,e0,e1,e2,e6,e7,e8,c1,c2,ca,hE,hP,hT,hA,k1,frA,A6]
   have k1:decide ((M:Int)<=-2147483648)=false:=bA
   by_cases b2:(M:Int) >= 2147483648
   ·have k2:decide ((M:Int) >= 2147483648)=true:=bC
    rw [if_pos cI] at ab;rw [ab];simp (maxSteps:=10^6)+contextual(disch:=try exact dqd)only[evs0,simprocAttr,Cc,Ca,Cd,results223,e0,e1,e2,e6,e7,e8,c1,c2,ca,hE,hP,hT,hA,k1,k2,frA,A6]
   have k2:decide ((M:Int) >= 2147483648)=false:=bC
   by_cases b3:(D:Int) >= 2147483648
   ·have k3:decide ((D:Int) >= 2147483648)=true:=bE
    rw [if_pos cG] at ab;rw [ab];simp (maxSteps:=10^6)+contextual(disch:=try exact dqd)only[evs0,simprocAttr,Cc,Ca,Cd,results223,e0,e1,e2,e6,e7,e8,c1,c2,ca,hE,hP,hT,hA,k1,k2,k3,frA,A6]
   have k3:decide ((D:Int) >= 2147483648)=false:=bE
   by_cases b4:(D:Int)=0
   ·have k4:((D:Int) == 0)=true:=bF
    rw [if_pos cE] at ab;rw [ab];simp (maxSteps:=10^6)+contextual(disch:=try exact dqd)only[evs0,simprocAttr,Cc,Ca,Cd,results223,e0,e1,e2,e6,e7,e8,c1,c2,ca,hE,hP,hT,hA,k1,k2,k3,k4,frA,A6]
   have k4:((D:Int) == 0)=false:=bF
   rw [if_neg cD] at ab;rw [ab];simp (maxSteps:=10^6)+contextual(disch:=try exact dqd)only[evs0,simprocAttr,Cc,Ca,Cd,results223,e0,e1,e2,e6,e7,e8,c1,c2,ca,k1,k2,k3,k4,frA,Gk]
 ·have c1:((y:Int) != 0)=true:=aX
  have hz:¬ ((y:Int)=0):=aA
  have hm:(x:Int).tmod (y:Int)=((x % y:Nat):Int):=dO
  simp (maxSteps:=10^6)+contextual(disch:=try exact dqd)only[evs0,simprocAttr,Cc,Ca,Cd,results223,e0,e1,e2,e6,e7,e8,c1,hz,hm];have hlt:=Ov x (by omega:0<y);exact IH (y,x % y) _ aF ⟨rfl,eJ,hy,aE,bD⟩):p:=h
def Ya1 (h:p:=by
 by_cases b3:(D:Int).tdiv (x:Int) >= 2147483648
 ·have k3:decide ((D:Int).tdiv (x:Int) >= 2147483648)=true:=bE
  rw [if_pos cG] at ab;rw [ab];simp (maxSteps:=10^6)+contextual(disch:=try exact dqd)only[evs0,simprocAttr,Cc,Ca,Cd,results223,e0,e1,e2,e6,e7,e8,c1,c2,hz,w5,w6,ca,hE,hP,hT,hA,k1,k2,k3,frA,A6]
 have k3:decide ((D:Int).tdiv (x:Int) >= 2147483648)=false:=bE
 by_cases b4:(D:Int).tdiv (x:Int)=0
 ·have k4:((D:Int).tdiv (x:Int) == 0)=true:=bF
  rw [if_pos cE] at ab;rw [ab];simp (maxSteps:=10^6)+contextual(disch:=try exact dqd)only[evs0,simprocAttr,Cc,Ca,Cd,results223,e0,e1,e2,e6,e7,e8,c1,c2,hz,w5,w6,ca,hE,hP,hT,hA,k1,k2,k3,k4,frA,A6]
 have k4:((D:Int).tdiv (x:Int) == 0)=false:=bF
 rw [if_neg cD] at ab;rw [ab];simp (maxSteps:=10^6)+contextual(disch:=try exact dqd)only[evs0,simprocAttr,Cc,Ca,Cd,results223,e0,e1,e2,e6,e7,e8,c1,c2,hz,w5,w6,ca,k1,k2,k3,k4,frA,Gk]):p:=h
def Ya2 (h:p:=by
 by_cases b3:(D:Int) >= 2147483648
 ·have k3:decide ((D:Int) >= 2147483648)=true:=bE
  rw [if_pos cG] at ab;rw [ab];simp (maxSteps:=10^6)+contextual(disch:=try exact dqd)only[evs0,simprocAttr,Cc,Ca,Cd,results223,e0,e1,e2,e6,e7,e8,c1,c2,ca,hE,hP,hT,hA,k1,k2,k3,frA,A6]
 have k3:decide ((D:Int) >= 2147483648)=false:=bE
 by_cases b4:(D:Int)=0
 ·have k4:((D:Int) == 0)=true:=bF
  rw [if_pos cE] at ab;rw [ab];simp (maxSteps:=10^6)+contextual(disch:=try exact dqd)only[evs0,simprocAttr,Cc,Ca,Cd,results223,e0,e1,e2,e6,e7,e8,c1,c2,ca,hE,hP,hT,hA,k1,k2,k3,k4,frA,A6]
 have k4:((D:Int) == 0)=false:=bF
 rw [if_neg cD] at ab;rw [ab];simp (maxSteps:=10^6)+contextual(disch:=try exact dqd)only[evs0,simprocAttr,Cc,Ca,Cd,results223,e0,e1,e2,e6,e7,e8,c1,c2,ca,k1,k2,k3,k4,frA,Gk]):p:=h
def Ya3 (h:p:=by
 simp (maxSteps:=10^6)+contextual(disch:=try exact dqd)only[ev0,simprocAttr,Cc,Ca,Cd,results54,d0',q0];refine loop1 (P:=prog) (fun x st=>st.T.length=25/\(x.1<=n.natAbs)/\(x.2.1++dig x.1=dig n.natAbs)/\(Be st.tk x.2.2 1=true)/\getT st.T 0=.int n/\getT st.T 2=.ref 0 0 0/\getT st.T 3=.prim (.int .u64 (x.1:Nat))/\getT st.T 4=.frz (x.2.1.map digC) x.2.2/\st.S=[⟨0,[.bool false,.frz [] .nilc]⟩]) (fun x=>x.1) (fun x=>zA n) (n.natAbs,[],.nilc) ?_ ?_;case refine_2=>exact ⟨rfl,Cf _,rfl,rfl,rfl,rfl,rfl,rfl,rfl⟩
 rintro ⟨u,out,c⟩ ⟨T,S',tk',n'⟩ ⟨hl,hu,he,ae,e0,e2,e3,e4,eS⟩ IH;simp only at hu he ae e0 e2 e3 e4 eS;subst eS;obtain ⟨g,hg,hT⟩:=Ao hl;rw [hg] at e0 e2 e3 e4;subst hT;clear hg hl;have hlen:=As2 he hN;have hr:=En out;have bu:=Bw ae;by_cases h0:u=0
 ·have d1:decide ((u:Int) > 0)=false:=aC
  subst h0;have hd:=Ane he;subst hd;cases d2:decide (n<0) with
  | true =>
   simp (maxSteps:=10^6)+contextual(disch:=try exact dqd)only[ev0,simprocAttr,Cc,Ca,Cd,results54,e0,e2,e3,e4,d1,d2];simp [zA,bigA,digA,d2]
  | false =>
   simp (maxSteps:=10^6)+contextual(disch:=try exact dqd)only[ev0,simprocAttr,Cc,Ca,Cd,results54,e0,e2,e3,e4,d1,d2];simp [zA,bigA,digA,d2]
 ·have d1:decide ((u:Int) > 0)=true:=aC
  have ev:¬ ((10000:Int)=0):=aA
  have cd:(out.map digC).length+1<=1048576:=aC
  have q1:(u:Int).tmod 10000=((u % 10000:Nat):Int):=by
   rw [Ic aA]; omega
  have q2:Ce.wrap ((u % 10000:Nat):Int)=((u % 10000:Nat):Int):=Aa aD;have q3:S6.wrap ((u:Int).tdiv 10000)=((u / 10000:Nat):Int):=by
   rw [C8 aA,P5 aA aA]; omega
  have hs:=Anf he h0;simp (maxSteps:=10^6)+contextual(disch:=try exact dqd)only[ev0,simprocAttr,Cc,Ca,Cd,results54,e0,e2,e3,e4,d1,ev,q1,q2,q3,hr];exact IH (u / 10000,out++[((u % 10000:Nat):Int)],A4 tk' c 1) _ aF ⟨rfl,aE,hs,bu,aB,aB,aB,aB,aB⟩):p:=h
def Ya4 (h:p:=by
 obtain ⟨y,hy⟩:∃ y,y=qF.minus a0 r0:=⟨_,rfl⟩;have oy:qF.ok y.1:=by rw [hy]; exact Dk.minus _ _ oa0 or0
 rw [ag,<- hy] at kr;have ru:Ce.wrap ((p.length:Int)+1)=(((p++[y.1]).length:Nat):Int):=bU
 have d9:=ah.T.fa;have jq:=ah.T.costE;have sf:entAt S' (S.length+2) I.ec=some (flat ga0 (p++a0 :: v)):=Za40
 have nq:=Ax (ce:=ga0) ga1 (Er (p:=p) (u:=v) (x:=a0));have yj:=Ax (ce:=ga0) ga1 ci;have ek:=ah.E16;have dn:=M1 S' tk' n' iq eq _ a0 r0 oa0 or0 d9;have hg1:=Es (c:=y.2) d9;rw [<- hy] at dn;obtain ⟨S1a,md⟩:∃ S1a,S1a=flS S' iq eq y.2:=⟨_,rfl⟩;have j2:=ah.flag (S':=flS S' iq eq y.2) (fun j hj=>ga6 hj) Bi d9.fS;rw [<- md] at dn hg1 j2;have si:entAt S1a (S.length+2) I.ec=some (flat ga0 (p++a0 :: v)):=Za2q
 have ho:=Bf (ce:=ga0) ga1 (l:=p++a0 :: v) (k:=p.length) (q':=y.1) (by simp);rw [G8] at ho;have gg:=j2.cost (k':=p++y.1 :: v) (by simp) (fun q hq=>by
  rcases Cw.1 hq with h|h
  ·exact ah.T.okc q cB
  ·rcases C6.1 h with rfl|h
   ·exact oy
   ·exact ah.T.okc q cB)
 rw [bl.2.2] at gg;have ky:∀ x,Oq S'.length (put S1a (S.length+2) x)=put S1a (S.length+2) x:=fun x=>Dc Za2s;simp (maxSteps:=10^6)+contextual(disch:=try exact dqd)only[evg1,simprocAttr,Cc,Ca,Cd,ga29,e0,e1,e2,e7,e10,e11,e12,e14,e15,e16,e18,e19,e83,e84,e85,e194,e195,c2,c6,c7,c7b,ru,se,kt,sf,nq,yj,ek,hpW,dn,hg1,si,ho,ky,Ga,xfs,puQ,tkQ,ga1,ga5];exact IH (put S1a (S.length+2) ⟨I.ec,flat ga0 (p++y.1 :: v)⟩,n'+ua4,p++[y.1],v,Ck fq y.2) _ aF ⟨rfl,Za0p,Za0f,Za0s,cC⟩):p:=h
def Ya5 (h:p:=by have hO S tk k:=Mu S tk k n hn;have hzn:=Ang hn;have h1:=Asz hm hn;have hM S tk k:=told (E:=E1) (Ru S tk k m.1 (decide (n<0)) m.2 (dig n.natAbs) aA (by have:=K2 hzn; omega));rw [V_zA hzn,Zo h1] at hM;have hA S tk k:=(Awq prog (f:=55) (p:=decide (z<0)) (l:=dig z.natAbs) (c:=c) rfl).trans (told (E:=E1) (Ako S tk k (decide (z<0)) (decide (V m.1 m.2*n<0)) (dig z.natAbs) (dig (V m.1 m.2*n).natAbs) (by have:=K2 hz; omega) (by have:=K2 h1; omega)));rw [V_zA hz,V_zA h1,Zo (show okZ (z+V m.1 m.2*n)=true from h2)] at hA;have qx:=R6 hx;have bc:=A8 hx;have cq:over (ownS outs) (i*2) [.prim (.bool (decide (z+V m.1 m.2*n<0))),.frz ((dig (z+V m.1 m.2*n).natAbs).map digC) .unk]=some (ownS (outs.set i (false,z+vB m*n))):=Za (false,z+vB m*n) hx;simp only [ownC] at qx;simp only [zA,bigA,digA] at hO hM hA;refine opS func52 ntmps52 ?_;simp (maxSteps:=10^6)+contextual(disch:=try exact dqd)only[evs1,simprocAttr,Cc,Ca,Cd,results52,bigC,hO,hM,hA,qx,cq,bc,bigA,digA,zA,entAt,nth,if_true,put,Si,List.set_cons_zero,Cm,C7,Fo,gX,Cp,Cz]):p:=h
def Ya6 (h:p:=by
 have hk:=hp.ok i x hx;have uu:=hk.2.2.1 rfl;by_cases hbig:10000<=x
 ·have d3:decide (x >= 10000)=true:=by simpa using hbig
  obtain ⟨y,hy⟩:=Ab (show i+1<(out.set i (x - 10000)).length by rw [iA]; omega);have i7:=D0 hy;have hyk:=hp.ok (i+1) y (by
   rcases Bz hy with ⟨e,-⟩|⟨-,hy⟩
   ·omega
   ·exact hy)
  have hy2:=hyk.2.2.2.1 aA;have hw1:Ce.wrap (x - 10000)=x - 10000:=Aa aD;have hw2:Ce.wrap (y+1)=y+1:=Aa aD;have cq:=Dj (v:=x - 10000) hx;have xm:=Dj (v:=y+1) hy;simp (maxSteps:=10^6)+contextual(disch:=try exact dqd)only[ev0,simprocAttr,Cc,Ca,Cd,results89,digA,e5,e39,e40,d2,d3,bz,hx',i7,bc,js,hw1,hw2,cq,xm,Fa];exact IH (i+1,(out.set i (x - 10000)).set (i+1) (y+1)) _ aF ⟨rfl,aE,hp.big hlt hx hbig hy,aB,aB,aB,aB⟩
 ·have d3:decide (x >= 10000)=false:=aC
  simp (maxSteps:=10^6)+contextual(disch:=try exact dqd)only[ev0,simprocAttr,Cc,Ca,Cd,results89,digA,e5,e39,e40,d2,d3,bz,hx',bc,Fa];exact IH (i+1,out) _ aF ⟨rfl,aE,hp.small hlt hx aE,aB,aB,aB,aB⟩):p:=h
def Ya7 (h:p:=by
 have c1:((y:Int) != 0)=true:=aX
 have hz:¬ ((y:Int)=0):=aA
 have hm:(x:Int).tmod (y:Int)=((x % y:Nat):Int):=dO
 simp (maxSteps:=10^6)+contextual(disch:=try exact dqd)only[evs0,simprocAttr,Cc,Ca,Cd,results223,e0,e1,e2,e6,e7,e8,c1,hz,hm];have hlt:=Ov x (by omega:0<y);exact IH (y,x % y) _ aF ⟨rfl,eJ,hy,aE,bD⟩):p:=h
def Ya8 (h:p:=by
 subst eS;obtain ⟨g,hg,hT⟩:=Ao hl;rw [hg] at e33 e34 e35;subst hT;clear hg hl;by_cases hlt:i<l.length
 ·have d1:decide ((i:Int)<(l.length:Int))=true:=aH
  obtain ⟨x,hx⟩:=Ab hlt;have hx':=B9 hx;have hw:=Ar (i:=i) aA;rw [Au hx] at hn;simp only [allD] at hn;simp (maxSteps:=10^6)+contextual(disch:=try exact dqd)only[ev0,simprocAttr,Cc,Ca,Cd,results51,e33,e34,e35,d1,digA,hx',hw];refine ⟨fun h1=>?_,fun h1=>⟨fun h2=>?_,fun h2=>?_⟩⟩
  ·rw [hn,if_pos (by simp [h1])]
  ·rw [hn,if_pos (by simp only [h1,h2]; rfl)]
  ·exact IH (i+1) _ aF ⟨rfl,hlt,Za2v,aB,aB,aB,aB⟩
 ·have d1:decide ((i:Int)<(l.length:Int))=false:=aH
  have he:i=l.length:=aA
  rw [he,C9] at hn;simp (maxSteps:=10^6)+contextual(disch:=try exact dqd)only[ev0,simprocAttr,Cc,Ca,Cd,results51,e33,e34,e35,d1,digA];exact hn.symm):p:=h
def Ya9 (h:p:=by
 have hsz:(ini.toArray.push o).size=ini.toArray.size+1:=by simp
 rw [hsz];have a0r:Sr (ini.toArray.size+1) false=(Sr ini.toArray.size false).push false:=by
  rw [Array.replicate_succ]
 rw [a0r];refine Afe hg (fun j hj=>?_) (fun e he=>?_) (fun i o' fc=>?_) _ _ _ _ (by simp) (fun j hj=>?_) hw
 ·have:=du j bK;rw [px]; simpa using this
 ·have:=hla e (by rw [px] at he; simpa using he);simpa using this
 ·have bh:=(Cj.1 fc).1;have:=hde i dY;rw [fc] at this;refine ⟨fun e he=>this.1 e he,fun g w hgw=>?_⟩;have h3:=this.2;simp only [hgw] at h3;simpa using h3
 ·rw [Fu,Array.getElem?_replicate] at hj;split at hj <;> simp at hj):p:=h
def Yaa (h:p:=by
 by_cases ae:Bs st a=true
 ·simp only [ae,if_true];constructor
  ·rintro ⟨n,h⟩;split at h
   ·rename_i s1 h1;have e:@evOs (gM (mdOf a)) P (Jk (mdOf a) P (cL P)) a a st=some s1:=Bt (G:=gM _) (Ah5 n).pure h1;rw [e];simp only [Cb] at h ⊢;obtain ⟨s,h1,h2⟩:=h;exact ⟨s,Bt (Ah5 n) h1,h2⟩
   ·simp at h
  ·intro h;split at h
   ·rename_i s1 h1;simp only [Cb] at h;obtain ⟨s,h2,h3⟩:=h;obtain ⟨n,hn⟩:=Ad3 h1;obtain ⟨m,hm⟩:=Ad2 h2;refine ⟨max n m,?_⟩;rw [Bt (G:=gM _) (Eh (show n<=max n m by omega)).pure hn];simp only [Cb];exact ⟨s,Bt (Eh (show m<=max n m by omega)) hm,h3⟩
   ·simp at h
 ·simp [ae]):p:=h
def Yab (h:p:=by
 have dv:p.length=W:=iv;refine ah.T.add (b:=c+i) (f:=fb) ?_ ?_ hbF ?_ (by show rowZ.length=p.length; omega) orowZ (fun q hq=>?_) ?_ (ah.T.fa.of (j4 iq aA aA (fun _=>⟨aA,aA⟩))) hAp Za3m (by show c+i<p.length; omega)
 ·rw [bl.1,bl.2.1,htF,yl]; simp only [bl.2.2,dv,du,jk,gh,intA]
 ·rw [hrF]; simp only [dv]
 ·rw [Ac (j4 (L+1) aA aA (fun h=>⟨by have:=ah.low.ir (hne h); omega,by have:=ah.low.ib (hne h); omega⟩))]; exact ah.E16
 ·have ca:=ah.T.ap.row q hq;have hq2:=ah.low.row q hq;exact j4 q.1 aA (by have:=jl.2.2 q hq; omega) (fun _=>⟨ca.2.1,ca.2.2.2.1⟩)
 ·exact j4 _ (by have:=ah.low.ic; omega) aA (fun _=>⟨ah.T.ap.rc.symm,ah.T.ap.cb⟩)):p:=h
def Yac (h:p:=by rw [if_pos cI] at ab;rw [ab];simp (maxSteps:=10^6)+contextual(disch:=try exact dqd)only[evs0,simprocAttr,Cc,Ca,Cd,results223,e0,e1,e2,e6,e7,e8,c1,c2,hz,w5,w6,ca,hE,hP,hT,hA,k1,k2,frA,A6]):p:=h
def Yad (h:p:=by rw [if_pos cP] at ab;rw [ab];simp (maxSteps:=10^6)+contextual(disch:=try exact dqd)only[evs0,simprocAttr,Cc,Ca,Cd,results223,e0,e1,e2,e6,e7,e8,c1,c2,hz,w5,w6,ca,hE,hP,hT,hA,k1,frA,A6]):p:=h
def Yae (h:p:=by rw [if_pos cI] at ab;rw [ab];simp (maxSteps:=10^6)+contextual(disch:=try exact dqd)only[evs0,simprocAttr,Cc,Ca,Cd,results223,e0,e1,e2,e6,e7,e8,c1,c2,ca,hE,hP,hT,hA,k1,k2,frA,A6]):p:=h
def Yaf (h:p:=by rw [if_pos cP] at ab;rw [ab];simp (maxSteps:=10^6)+contextual(disch:=try exact dqd)only[evs0,simprocAttr,Cc,Ca,Cd,results223,e0,e1,e2,e6,e7,e8,c1,c2,ca,hE,hP,hT,hA,k1,frA,A6]):p:=h
def Yag (h:p:=by
 have hw2:Ce.wrap (x+c+y)=x+c+y:=Aa aD;have xn:Ce.wrap ((x+c+y).tdiv 10000)=(x+c+y).tdiv 10000:=by
  rw [C8 aA]; exact Aa aD
 simp (maxSteps:=10^6)+contextual(disch:=try exact dqd)only[ev0,simprocAttr,Cc,Ca,Cd,results265,e1,e5,e6,e20,e21,e22,digA,d2,d3,hx',i7,bz,hw1,hw2,xn,ev,hr];exact IH (i+1,zs++[(x+c+y).tmod 10000],(x+c+y).tdiv 10000,A4 tk' cp 1) _ aF ⟨rfl,aE,hI.step hx (by rw [hy]; rfl) hxk hyk rfl,bu,aB,aB,aB,aB,aB,aB,aB⟩):p:=h
def Yah (h:p:=by
 have xn:Ce.wrap ((x+c).tdiv 10000)=(x+c).tdiv 10000:=by
  rw [C8 aA]; exact Aa aD
 simp (maxSteps:=10^6)+contextual(disch:=try exact dqd)only[ev0,simprocAttr,Cc,Ca,Cd,results265,e1,e5,e6,e20,e21,e22,digA,d2,d3,hx',bz,hw1,xn,ev,hr];exact IH (i+1,zs++[(x+c).tmod 10000],(x+c).tdiv 10000,A4 tk' cp 1) _ aF ⟨rfl,aE,hI.step (y:=0) hx (by rw [Ae,Et aE]; rfl) hxk aE aE,bu,aB,aB,aB,aB,aB,aB,aB⟩):p:=h
def Yai (h:p:=by
 refine ⟨hl2.os,hl2.tape,hl2.output,hl2.size,rfl,Nat.le_succ_of_le hl2.n,fun x o hx hm=>?_,hl2.cell,hl2.keep,hl2.shape,fun id e' he hn=>?_,hl2.tok⟩
 ·rcases Zk hm with h|h
  ·exact hl2.mt x o hx h
  ·omega
 ·rcases Kr he with ⟨h1,h2⟩|⟨h1,h2⟩
  ·subst h2;have:=hl2.n;simp only at this hn;omega
  ·obtain ⟨w1,w2,w3,w4⟩:=hl2.ent id e' h2 hn;refine ⟨w1,w2,w3,?_⟩;simp only [Cx.rev];rw [if_neg aA];exact w4):p:=h
def Yaj (h:p:=by simp only [pn,Cb,Ch] at ba;obtain ⟨cs,-,-,rfl⟩:=ba;simp only;rw [Ae,Ae,Cu aA]):p:=h
def Yak (h:p:=by obtain ⟨i,hi⟩:=Sv hp;have bh:=(Fk.1 hi).1;obtain ⟨r,hr⟩:=Ab (show i<t.rows.length by rw [<- h.nids]; exact bh);exact Ba (h.rowE i p r Za50 hr)):p:=h
def Yal (h:p:=by
 cases c with
 | unk=>trivial
 | tight=>exact hc
 | nilc=>exact hc
 | nl=>exact hc
 | nn=>exact hc
 | tok id ep sz =>
  obtain ⟨k,h1,h2,h3⟩:=hc;obtain ⟨k',h4,h5,h6⟩:=h.tok id k h1;refine ⟨k',h4,aA,fun e=>?_⟩;rcases h3 aA with h7|⟨b,cs,t,ea,hp,hb,hl⟩
  ·exact .inl h7
  ·obtain ⟨cs',h8,h9⟩:=h.shape b cs t _ hb;exact .inr ⟨b,cs',t,ea,by rw [h6 aA,hp],h8,aA⟩):p:=h
def Yam (h:p:=by subst he;have ed:=hp.done;have hT tk k:=Ev [⟨0,out.map numC⟩] tk k out 0 0 aA rfl;rw [hlen] at hT;have jd:=Uk (m:=0) (id:=0) (ep:=0) (S:=[⟨0,out.map numC⟩]) (Cf _) rfl (Ha out);rw [<- Dh,ed] at jd;rw [ed] at hT;simp (maxSteps:=10^6)+contextual(disch:=try exact dqd)only[ev0,simprocAttr,Cc,Ca,Cd,results89,digA,e5,e39,e40,d2,hT,jd]):p:=h
def Yan (h:p:=by
 have c1:(sysE l != 0)=false:=aX
 simp only [ansC,lsC,ceW,An,Bc,Cp,Cz] at hA;simp only [An,Bc] at hC hV;refine opP func23 ntmps23 (hp3:=rfl) ?_;simp (maxSteps:=10^6)+contextual(disch:=try exact dqd)only[ev1,simprocAttr,Cc,Ca,Cd,results23,An,Bc,hC,hV,hA,c1,h0];try (intro h; exact absurd h aK)):p:=h
def Yao (h:p:=by have hws:Ce.wrap (x+d)=x+d:=Aa aD;have cq:=Dj (v:=x+d) hx;simp (maxSteps:=10^6)+contextual(disch:=try exact dqd)only[ev0,simprocAttr,Cc,Ca,Cd,results89,digA,e0,e5,e23,e24,e25,d2,dm,bz,hx',bc,hws,cq,Fa];exact IH (i+1,out.set i (x+d)) _ aF ⟨rfl,aE,hp.step aE hx hd,aB,aB,aB,aB,aB,aB⟩):p:=h
def Yap (h:p:=by simp only [VR] at hx ⊢;obtain ⟨b,a,cap,h0,h0',h0'',hn,hx⟩:=hx;refine ⟨b,a,cap,h0,h0',h0'',Ft hn h.n,fun e' he oe=>?_⟩;obtain ⟨e,h1,h2,h3⟩:=h.ent id e' he aA;obtain ⟨g1,cs,t,g2,g3⟩:=hx e h1 aA;obtain ⟨cs',g4,g5⟩:=h.shape b cs t _ g2;exact ⟨by rw [h3]; exact g1,cs',t,g4,aA⟩):p:=h
def Yaq (h:p:=by subst fm;have hT c' S tk k:=Zi S tk k (zs++[c]) c' aC;rw [hI.done hle] at hT;simp only [F6,Cn,Ct,digC,digA] at hT;simp (maxSteps:=10^6)+contextual(disch:=try exact dqd)only[ev0,simprocAttr,Cc,Ca,Cd,results265,e1,e5,e6,e20,e21,e22,digA,d2,hr,hT]):p:=h
def Yar (h:p:=by
 rename_i t' l' c' pn;simp only [pn,Cb,Prod.exists] at ba;obtain ⟨l0,sz0,cs0,-,hh⟩:=ba;split at hh
 ·simp only [Ch] at hh;obtain ⟨-,rfl⟩:=hh;rfl
 ·simp only [Ch] at hh;obtain ⟨-,rfl⟩:=hh;simp only;rw [Ae,Ae,Cu aA]):p:=h
def Yas (h:p:=by have hq:=m9.h;have:=Tm (P:=P) (fn:=fn) (st:=st) (k:=k) (id:=id) (ops:=ops.toArray) fD fB aI;simp only [jR,hq] at this;exact this):p:=h
def Yat (h:p:=by refine ⟨rfl,rfl,rfl,rfl,rfl,rfl,rfl,by simp [Cx.tok],by simp [Cx.tok,Jh],fun i hi=>Za3x,fun i k hk=>?_⟩;have hlt:=A8 hk;refine ⟨k,?_,Cf _,fun _=>by simp [Jh]; omega⟩;simp only [Cx.tok];rw [Ae] at hk ⊢;rw [Cu hlt]; exact hk):p:=h
def Yau (h:p:=by
 obtain ⟨ex,s2⟩:=x;cases ex with
 | normal=>exact absurd h (hne s2)
 | exit id=>rfl
 | ret=>rfl):p:=h
def Yav (h:p:=by rw [dq] at hx;simp only [Act.put,Sj] at hx;rw [List.getElem?_set_ne (fun h=>ii (by rw [dq,h]))] at hx;exact hx):p:=h
def Yaw (h:p:=by have hd:=Int.emod_add_mul_ediv (r*10000+x) b;rw [Int.add_mul,Ir,<- Ia,F3 ((r*10000+x) / b)];generalize b*((r*10000+x) / b)=t at *;generalize (r*10000+x) % b=u at *;rw [Ia];generalize val (out.drop m)*b=w at *;omega):p:=h
def Yax (h:p:=by rw [h1] at hf;simp (maxSteps:=10^6)+contextual(disch:=try exact dqd)only[evs1,simprocAttr,Cc,Ca,Cd,results130,e0,e1,e7,e8,d1,A7,bp,hw,hf,F5];rw [IH (i+1,n'+1) _ aV ⟨rfl,hlt,rfl,rfl,rfl,rfl,rfl,rfl,rfl⟩];simp [idxB,h1]; omega):p:=h
def Yay (h:p:=by unfold Oper.wp;rw [hrun];refine Calls.mono hC ?_;rintro e' w' ⟨v,C',rfl,rfl,k1,k2,k3,k4,k5,k6⟩;exact hn v C' k1 k2 k3 k4 k5 k6):p:=h
def Yaz (h:p:=by
 have e:isum (m+1) (fun k=>a i k*((dg (H+1) k q:Int) - (dg (H+1) k p:Int)))=im q i - im p i:=by
  rw [uf];show _=isum (m+1) _ - isum (m+1) _;rw [<- Yy];congr 1;funext k;rw [Sz]
 rw [e];have h4:=heq i hi;have h5:=hb p i hi;have h6:=hb q i hi;omega):p:=h
def Ya00 (h:p:=by exact Rj rfl (Awt S l vars fl k iq eq c W nz z.1 ⟨hl,nw,hv,hc,fj,oc,pp,wd⟩ oz Φ i bh r hr sl tx t1 I cp tk' gh hcl du jk ae bl jl L m0 nu u hU ou SX nx _ gi hR back _ rfl rfl rfl rfl rfl rfl rfl rfl rfl rfl rfl h18 rfl rfl rfl rfl rfl rfl rfl)):p:=h
def Ya01 (h:p:=by
 have d1:decide ((i:Int)<(ms.length:Int))=false:=aH
 have he:i=ms.length:=aA
 simp (maxSteps:=10^6)+contextual(disch:=try exact dqd)only[evs1,simprocAttr,Cc,Ca,Cd,results130,e0,e1,e7,e8,d1,A7];simp only [he,C9]; rfl):p:=h
def Ya02 (h:p:=by
 split at he
 ·rename_i ae;simp only [ae,if_true];split at he
  ·rename_i s1 h1;rw [Bt (G:=gM _) h.pure h1];simp only [Cb] at he ⊢;obtain ⟨x,h1,h2⟩:=he;exact ⟨x,Bt h h1,h2⟩
  ·simp at he
 ·simp at he):p:=h
def Ya03 (h:p:=by
 simp only [An] at hC;have c1:(sysE l != 0)=true:=aX
 refine opP func23 ntmps23 (hp3:=rfl) ?_;simp (maxSteps:=10^6)+contextual(disch:=try exact dqd)only[ev1,simprocAttr,Cc,Ca,Cd,results23,An,hC,c1,h0]):p:=h
def Ya04 (h:p:=by
 have iy:=grownCap_ge w 1 0 3;refine ⟨_,rfl,Ajs (zs:=[x]) hbase (Ap w.drew _) iy (grownCap_le_maxLen w 1 0 _ aA) ?_ ?_,((Fq _ _).drew).alloc hbase _⟩
 ·rw [p9]; simp [size_zeroCells,a0x]; omega
 ·simp):p:=h
def Ya05 (h:p:=by
 split at ho
 ·rename_i hn;rw [if_pos hn];unfold runN at ho ⊢;split at ho
  ·split at ho
   ·rename_i q1 q2;rw [one q1,one q2]; exact ho
   ·simp at ho
  ·exact one ho
 ·rename_i hn;rw [if_neg hn];exact one ho):p:=h
def Ya06 (h:p:=by exact IH (put S3 S.length ⟨k,ga0 y.1⟩,n2+1+ua4+ua3,P++[r0],U,some (P.length,y.1),Ck fq (Ck y.2 d.2)) _ aF ⟨rfl,ji,jy,hTn,⟨_,Ai aE,ga1 _,fun bi' q h=>Za5g⟩,dZ,fun j h1 h2=>Za5m,bD⟩):p:=h
def Ya07 (h:p:=by
 cases hp:ops[j]? with
 | none=>rw [hp] at dd; simp at dd
 | some p =>
  rw [hp] at dd;refine confl j p hp ?_ ?_ hne
  ·rcases dy with dy|dy <;> simp [conf,dd,dy]
  ·rcases dy with dy|dy <;> simp [conf,dd,dy]):p:=h
def Ya08 (h:p:=by
 refine ⟨rfl,rfl,by simp,fun r h=>aT,fun r h=>aT,fun q h=>?_,fun i h=>aO,fun j=>?_,fun i h=>aO,rfl⟩
 ·rw [(Iu.1 h).2]; exact w.1
 ·rw [Akg w.2];split
  ·show (0:Rat)=- 0;grind
  ·rfl):p:=h
def Ya09 (h:p:=by
 rcases Bz hu with ⟨e,-⟩|⟨-,hu⟩
 ·omega
 ·exact h.high j u hj hu):p:=h
def Ya0a (h:p:=by
 have hb:0<B:=aA
 subst h;constructor
 ·rw [Int.add_comm,Int.add_mul_ediv_right _ _ aA,Int.ediv_eq_zero_of_lt h0 h1]; omega
 ·rw [Int.add_comm,Int.add_mul_emod_self_right,Int.emod_eq_of_lt h0 h1]):p:=h
def Ya0b (h:p:=by rw [hc] at hC;simp only [digA] at hC hM;simp (maxSteps:=10^6)+contextual(disch:=try exact dqd)only[ev1,simprocAttr,Cc,Ca,Cd,results260,iq1,iq2,iq3,iq4,iq5,zA,bigA,digA,d1,hC,hM]):p:=h
def Ya0c (h:p:=by
 refine Od fun hx=>?_;have:p=q:=At6 (b:=H+1) (d:=m+1) aA aA aA fun n hn=>by
  have gy:¬ ((dg (H+1) n q:Int) - (dg (H+1) n p:Int)≠0):=fun h=>hx ⟨n,hn,h⟩;omega
 omega):p:=h
def Ya0d (h:p:=by simp only [VR] at hx ⊢;obtain ⟨b,h0,hn,hx⟩:=hx;refine ⟨b,h0,Ft hn h.n,fun e' he oe=>?_⟩;obtain ⟨e,h1,h2,h3⟩:=h.ent id e' he aA;rw [h3]; exact hx e h1 aA):p:=h
def Ya0e (h:p:=by
 rcases hc with hc|⟨cs,t,ha,hp,hb,hl⟩
 ·exact .inl hc
 ·exact .inr ⟨b,cs,t,ha,Za1z,hb,hl⟩):p:=h
def Ya0f (h:p:=by rw [h1] at hf;simp (maxSteps:=10^6)+contextual(disch:=try exact dqd)only[evs1,simprocAttr,Cc,Ca,Cd,results130,e0,e1,e7,e8,d1,A7,bp,hw,hf,Fw];simp [idxB,h1]):p:=h
def Ya0g (h:p:=by simp only [A7] at hA;refine opP func50 ntmps50 ?_;simp (maxSteps:=10^6)+contextual(disch:=try exact dqd)only[ev1,simprocAttr,Cc,Ca,Cd,results50,A7,hA,Bool.not_not,G5]):p:=h
def Ya0h (h:p:=by have:=hle.trans (Le.of_below (C:=C1) hbel);rw [show ({ C1.hid arr t with av:=C.av } : Cx)=C1.at (C1.w.alloc (.cells arr t)) from by unfold Cx.hid Cx.at; rw [hle.av]];exact this):p:=h
def Ya0i (h:p:=by
 rcases C6.1 h with rfl|h
 ·exact hs.1
 ·exact ih.1 q h):p:=h
def Ya0j (h:p:=by simp (maxSteps:=10^6)+contextual(disch:=try exact dqd)only[ev1,simprocAttr,Cc,Ca,Cd,results261,ratA,digA,qy,q6,a00,di,bg,hD,hO,c8,G2,F4]):p:=h
def Ya0k (h:p:=by simp only [sgnZ,digA] at hs hM ⊢;simp (maxSteps:=10^6)+contextual(disch:=try exact dqd)only[ev0,simprocAttr,Cc,Ca,Cd,results95,digA,zA,bigA,hM,hs,d1,d2,hC]):p:=h
def Ya0l (h:p:=by simp only [bigC] at hF;refine opS func93 ntmps93 ?_;simp (maxSteps:=10^6)+contextual(disch:=try exact dqd)only[evs1,simprocAttr,Cc,Ca,Cd,results93,bigC,h,hF]):p:=h
def Ya0m (h:p:=by simp (maxSteps:=10^6)+contextual(disch:=try exact dqd)only[ev1,simprocAttr,Cc,Ca,Cd,results29,rowA,Ag,hC,d0,hvt,hvf,Ct,hz,d2,d3];simp [ht,hz0,gy]):p:=h
def Ya0n (h:p:=by
 have h3:=hD.t2 t fun j hj=>ht j ((ao j).2 (.inr hj));cases dm:o.dst with
 | none=>simp only [putT]; exact h3
 | some d =>
  simp only [putT];rw [B7 (fun x=>hne cY)];exact h3):p:=h
def Ya0o (h:p:=by simp only [A7] at hI;refine opS func92 ntmps92 ?_;simp (maxSteps:=10^6)+contextual(disch:=try exact dqd)only[evs1,simprocAttr,Cc,Ca,Cd,results92,A7,hI,iy]):p:=h
def Ya0p (h:p:=by exact IH (S3,n2+1+ua4+ua3,P++[r0],U,some (bi,least),Ck fq (Ck y.2 d.2)) _ aF ⟨rfl,ji,jy,vf,⟨_,Za4o,ga1 _,fun bi' q h=>Za5i⟩,aE,fun j h1 h2=>Za37,bD⟩):p:=h
def Ya0q (h:p:=by unfold apO;rw [h]; simp only [hl];rw [if_pos ⟨aA,by simp [roomy]⟩];simp only [apO2,hE];rw [if_pos ⟨trivial,h0⟩];rw [if_pos ⟨aA,by simpa [roomy] using h1⟩]):p:=h
def Ya0r (h:p:=by rw [Fg] at hc;obtain ⟨c',bp,rfl⟩:=hc;rw [Se] at bp;obtain ⟨r,hr,bp⟩:=bp;exact C4.1 (C4.1 hp r hr) c' bp):p:=h
def Ya0s (h:p:=by
 simp only [Instr.indexAt,asIntOf,Fv,I1,Fj,Bk he];have:(0:Int)<=(k:Int)/\(k:Int)<(n:Int):=aA
 simp [Sl,this,E2 hs,Dv]):p:=h
def Ya0t (h:p:=by refine (Hn hc b8 ho fun u C2 k1 k2 k3 k4 k5 k6=>?_).1;simp only [A3] at h2;subst h2;exact hQ _ C2 (hle.trans k1) (b8.put k1 k2 k3 k4 k5 k6 hT)):p:=h
def Ya0u (h:p:=by
 by_cases h:c
 ·simp [h]; intro h'; cases h'
 ·simp [h]; rfl):p:=h
def Ya0v (h:p:=by
 by_cases h:c
 ·simp [h]; rfl
 ·simp [h]; intro h'; cases h'):p:=h
def Ya0w (h:p:=by refine opP func60 ntmps60 ?_;simp (maxSteps:=10^6)+contextual(disch:=try exact dqd)only[ev1,simprocAttr,Cc,Ca,Cd,results60,rowA,Ag,Ct]):p:=h
def Ya0x (h:p:=by simp only [A3] at h; subst h;refine .mk ?_;rw [Fv,D4 (by simp)];simp only [Fj,binOp,Fv,Px he,I1]):p:=h
def Ya0y (h:p:=by simp (maxSteps:=10^6)+contextual(disch:=try exact dqd)only[ev1,simprocAttr,Cc,Ca,Cd,results251,ratA,digA,hA,hB,hK,hO1,hO2,u7,hO4,gz,au,hS,hM]):p:=h
def Ya0z (h:p:=by
 simp only [Instr.indexAt,asIntOf,Fv,I1,Fj,Bk (D1 he)];have:(0:Int)<=(k:Int)/\(k:Int)<(len:Int):=aA
 simp [this,E2 hs,Dv]):p:=h
def Ya10 (h:p:=by
 simp only [Act.put,Sj] at hx;rw [List.getElem?_set] at hx;simp only [if_true] at hx;split at hx
 ·simpa using hx.symm
 ·simp at hx):p:=h
def Ya11 (h:p:=by simp only [Cb,Ch] at h;obtain ⟨cs,_,rfl,rfl⟩:=h;exact ⟨Za0d,Za03,hI.tk,slot rfl (fun _=>⟨_,_,_,rfl,hI.le⟩)⟩):p:=h
def Ya12 (h:p:=by rw [Adf];exact h x st hI fun y st' hlt hy=>ih (μ y) (hn ▸ hlt) y st' rfl hy):p:=h
def Ya13 (h:p:=by simp only [A3,Ch] at h; obtain ⟨-,rfl⟩:=h; rfl):p:=h
def Ya14 (h:p:=by have:=A5 jr;rw [h5,Pr] at this;simp at this ⊢;omega):p:=h
def Ya15 (h:p:=by subst e; rw [if_pos rfl,if_pos rfl]; grind):p:=h
def Ya16 (h:p:=by simp (maxSteps:=10^6)+contextual(disch:=try exact dqd)only[ev1,simprocAttr,Cc,Ca,Cd,results251,ratA,digA,hA,hB,hK,hw1,hw2,d1,d2]):p:=h
def Ya17 (h:p:=by
 rcases (ao j).1 hj with rfl|hj
 ·exact lh e he
 ·exact hD.closed j hj e he):p:=h
def Ya18 (h:p:=by simp (maxSteps:=10^6)+contextual(disch:=try exact dqd)only[ev1,simprocAttr,Cc,Ca,Cd,results229,iq1,iq2,iq3,iq4,iq5,Mh,digA]):p:=h
def Ya19 (h:p:=by rw [hr];simp (maxSteps:=10^6)+contextual(disch:=try exact dqd)only[evs0,simprocAttr,Cc,Ca,Cd,results220,frA,k1,k2,new1a,H3]):p:=h
def Ya1a (h:p:=by simp (maxSteps:=10^6)+contextual(disch:=try exact dqd)only[ev1,simprocAttr,Cc,Ca,Cd,results107,hC,d0];simp [Lu,h0,linA,Ag]):p:=h
def Ya1b (h:p:=by simp only [over,Cb] at h;obtain ⟨x,h,rfl⟩:=h;simp only [Cp,over,Arf p h,Cy]):p:=h
def Ya1c (h:p:=by simp only [VR] at hx ⊢;obtain ⟨b,o,vs,e,hl,hr⟩:=hx;exact ⟨b,o,vs,e,hl.stays h.stays,PRs.stays h.stays cs vs hr⟩):p:=h
def Ya1d (h:p:=by
 cases hp:ops[j]? with
 | none=>rw [hp] at dd; simp at dd
 | some p =>
  rw [hp] at dd;have:=(confl j p hp fA fA aA).1 h4;omega):p:=h
def Ya1e (h:p:=by simp (maxSteps:=10^6)+contextual(disch:=try exact dqd)only[ev0,simprocAttr,Cc,Ca,Cd,results57,hV,hv];rfl):p:=h
def Ya1f (h:p:=by simpa using this):p:=h
def Ya1g (h:p:=by simp only [Cx.tok];obtain ⟨x,hx⟩:=Ab (l:=put C.tk id (ep+1)) (i:=id) (by rw [Am]; exact A8 h.2);rw [hx,Ee hx]):p:=h
def Ya1h (h:p:=by simp (maxSteps:=10^6)+contextual(disch:=try exact dqd)only[ev1,simprocAttr,Cc,Ca,Cd,results98,Mh,Ag]):p:=h
def Ya1i (h:p:=by
 rw [co,cn];intro q hq;rcases Bu hq with rfl|hq
 ·exact od
 ·rcases Bu hq with rfl|hq
  ·exact oo
  ·exact orowY q hq):p:=h
def Ya1j (h:p:=by have:=(Fk.1 hj).1;simp at this; omega):p:=h
def Ya1k (h:p:=by simp only [A3] at hy; omega):p:=h
def Ya1l (h:p:=by subst e;rw [if_pos rfl] at ab;rw [hp] at hq;simp only [A3] at ab hq;subst ab; subst hq; exact he):p:=h
def Ya1m (h:p:=by
 unfold Gp;split
 ·split
  ·split <;> simp
  ·split
   ·simp
   ·simp only [F8]; omega
 ·simp only; omega):p:=h
def Ya1n (h:p:=by obtain ⟨-,o',fc,-⟩:=Eu hi;have:=(Cj.1 fc).1;rw [Array.size_push] at this; omega):p:=h
def Ya1o (h:p:=by cases h;exact ⟨T,hr,Bq.2 ⟨0,rfl⟩⟩):p:=h
def Ya1p (h:p:=by obtain ⟨cs,rfl,h2⟩:=Ags (f:=coefC) (Q:=fun c=>i64 c.2) fun x hx=>An5 (h1 x hx);exact ⟨cs,rfl,h2⟩):p:=h
def Ya1q (h:p:=by refine ⟨[],?_,by simp [VRs],by simp⟩;cases a <;> simp [jY,loadCells,loadCellsFrom]):p:=h
def Ya1r (h:p:=by simp only [Cb,Ch] at ho; obtain ⟨_,_,_,rfl⟩:=ho; exact ⟨_,rfl⟩):p:=h
def Ya1s (h:p:=by
 have cr:¬ fn.body=none:=Za22
 simp [execOp,e,resolve,hx,pw,Deferred.ofValue,invoke,callFunc,g1,cd,cr]):p:=h
def Ya1t (h:p:=by rw [if_pos (by rw [s1,s2]; rfl)];exact ⟨_,_,rfl,rfl,fun h=>(by rw [s1] at h; cases h),fun h=>aT⟩):p:=h
def Ya1u (h:p:=by
 rcases Bu ab with rfl|ab
 ·exact hl
 ·exact h.rowW r ab):p:=h
def Ya1v (h:p:=by refine ⟨e.1,e.2.trans ?_⟩;rw [Cv,Cv];exact Lr (Gh aA) (Gh aA) (Gh h3)):p:=h
def Ya1w (h:p:=by
 rw [Ff] at hc;rcases Cw.1 hc with hc|hc
 ·exact g1 c hc
 ·exact g2 c hc):p:=h
def Ya1x (h:p:=by subst e; exact ⟨S5,fun _=>Cf _⟩):p:=h
def Ya1y (h:p:=by simp only [VR] at hx ⊢;obtain ⟨vs,e,hr⟩:=hx;exact ⟨vs,e,VRs.mono0 h caps vs.toList hr⟩):p:=h
def Ya1z (h:p:=by rw [k1.keep b (Cj.1 hb1).1 fun o hm=>bw.sr.own b o hm (dx o)]; exact hb1):p:=h
def Ya20 (h:p:=by rw [if_pos aX] at h; exact absurd h h0):p:=h
def Ya21 (h:p:=by have:=congrArg List.length hl;simp only [List.length_drop,Cm,h.rows] at this;omega):p:=h
def Ya22 (h:p:=by simp only [VR] at hx ⊢;obtain ⟨vs,e,hr⟩:=hx;exact ⟨vs,e,VRs.mono h caps vs.toList hr⟩):p:=h
def Ya23 (h:p:=by rw [Ii eo,S7] at hj;simp [I7,h3]; simpa using hj):p:=h
def Ya24 (h:p:=by
 cases dm:o.dst with
 | none=>simp only [putT]
 | some d =>
  simp only [putT];rw [B7 (fun x=>hne cY)]):p:=h
def Ya25 (h:p:=by
 obtain ⟨ex,s2⟩:=x;cases ex with
 | normal=>rfl
 | exit id=>exact absurd h (hne id s2)
 | ret=>rfl):p:=h
def Ya26 (h:p:=by simp only [VR] at hx ⊢;obtain ⟨vs,e,hr⟩:=hx;exact ⟨vs,e,VRs.mono0 h cs vs.toList hr⟩):p:=h
def Ya27 (h:p:=by rw [List.take_append,Dc aA,wz,Mg,kE,Fp]):p:=h
def Ya28 (h:p:=by simp only [VR] at hx ⊢;obtain ⟨vs,e,hr⟩:=hx;exact ⟨vs,e,VRs.mono h cs vs.toList hr⟩):p:=h
def Ya29 (h:p:=by exact ⟨Hb (v:=w) (w':=C'.w) eM (hn w C' h2 h3 (h4.trans hr.S) h5 (h6.trans hr.n) h7),rfl⟩):p:=h
def Ya2a (h:p:=by
 obtain ⟨ex,s2⟩:=r;cases ex with
 | normal=>exact absurd he (hne s2)
 | exit id=>rfl
 | ret=>rfl):p:=h
def Ya2b (h:p:=by
 split at he
 ·rename_i r' s1 ho;rw [Lk (fun z hz=>Di ih aA c _ z hz) ho];exact he
 ·simp at he):p:=h
def Ya2c (h:p:=by
 cases fx with
 | func g=>simp only [w7 g rfl,zq,jS]
 | _=>simp only [pz,jS]):p:=h
def Ya2d (h:p:=by
 cases fx with
 | func g=>simp only [w7 g rfl,uw,S8]
 | _=>simp only [pz,S8]):p:=h
def Ya2e (h:p:=by unfold mkA;rw [hz,hs,hb,intN_cast];simp only [mkB];rw [if_pos ⟨Cf _,h,wc,rfl⟩]):p:=h
def Ya2f (h:p:=by refine ⟨e.1,e.2.trans ?_⟩;rw [Cv,Cv];exact Js (Gh aA) (Gh aA)):p:=h
def Ya2g (h:p:=by exact h.rowE j q r hq ab):p:=h
def Ya2h (h:p:=by simp only [A3,Ch] at h; obtain ⟨-,rfl⟩:=h; exact K6.refl _):p:=h
def Ya2i (h:p:=by rw [Fg] at he;obtain ⟨e',om,rfl⟩:=he;rw [F8]; exact g2 e' om):p:=h
def Ya2j (h:p:=by rename_i h'; exact absurd h' (hb _)):p:=h
def Ya2k (h:p:=by simp only [Cb,Ch] at ba;obtain ⟨cs,-,-,rfl⟩:=ba;simp):p:=h
def Ya2l (h:p:=by refine Pu (by rw [<- ke,Zf]) jr fun e he=>?_;have:=ei e he;rw [Hl aA]; exact aq e this):p:=h
def Ya2m (h:p:=by unfold depsOf; rw [ho];exact Fg.2 ⟨e,List.mem_filter.2 ⟨eE,hb⟩,rfl⟩):p:=h
def Ya2n (h:p:=by have:=Ey.1 (Fc.1 h); omega):p:=h
def Ya2o (h:p:=by
 have:n.natAbs<10000 ^ 5:=aA
 exact Ft this (Nat.pow_le_pow_right aA aA)):p:=h
def Ya2p (h:p:=by obtain ⟨q1,q2⟩:=res g1 h;simp only at q2; subst q2;simp only [cont,outA,q1]; rfl):p:=h
def Ya2q (h:p:=by simp only [A3,Ch] at h; obtain ⟨_,rfl⟩:=h; exact this):p:=h
def Ya2r (h:p:=by simp only [VR] at hx ⊢;obtain ⟨u,e,hr⟩:=hx;exact ⟨u,e,VR.mono0 h v u hr⟩):p:=h
def Ya2s (h:p:=by simp only [VR] at hx ⊢;obtain ⟨u,e,hr⟩:=hx;exact ⟨u,e,VR.mono h v u hr⟩):p:=h
def Ya2t (h:p:=by simp only [Cb] at h;obtain ⟨v,h,hh⟩:=h;exact quiet v h hh):p:=h
def Ya2u (h:p:=by exact iM _ this):p:=h
def Ya2v (h:p:=by have:=Simp.sum_nonneg (f:=fun i=>x (L+i)) (n:=m) fun i hi=>hx.sol.pos _ aA;grind):p:=h
def Ya2w (h:p:=by
 split at h
 ·rename_i h'; simp only [A3] at h; rw [h',h]
 ·cases h):p:=h
def Ya2x (h:p:=by rw [Td,h.len,gR,Mk,this];exact hv):p:=h
def Ya2y (h:p:=by
 have ur:x<listed.size:=aA
 simp [Sn,ur] at h0 h1;rw [h0] at h1; cases h1):p:=h
def Ya2z (h:p:=by have:=c8.2.2 aA;have h2:=(hw c aA this.1).2 hlt;rw [this.2] at h2; simp at h2):p:=h
def Ya30 (h:p:=by
 split
 ·omega
 ·split <;> omega):p:=h
def Ya31 (h:p:=by exact Cf _):p:=h
def Ya32 (h:p:=by exact ⟨rfl,rfl⟩):p:=h
def Ya33 (h:p:=by show RK P fn (.loop c) { st with S:=cutS (Qk c) m st.S } k=_;rw [hk.h]; rfl):p:=h
def Ya34 (h:p:=by unfold apO;rw [h]; simp only [hl];rw [if_pos ⟨aA,by simp [roomy]⟩];rfl):p:=h
def Ya35 (h:p:=by rename_i x hx;rw [hx] at h2; simp only [VR] at h2; subst h2;simpa using h):p:=h
def Ya36 (h:p:=by simp only [Ch] at e;exact ⟨h0,o',fc,by rw [e.1]; exact hd⟩):p:=h
def Ya37 (h:p:=by simp only [Cx.hid];rw [hle.av];exact ⟨fun h=>h.resolve_right hx,.inl⟩):p:=h
def Ya38 (h:p:=by show entAt SF _ _=_;rw [Ac (j4 _ aA aA (fun _=>⟨aA,aA⟩))]; exact ah.Z):p:=h
def Ya39 (h:p:=by show nth SF j=_;rw [j4 j aA aA (fun _=>⟨aA,aA⟩)]; exact ah.fr j h1 h2):p:=h
def Ya3a (h:p:=by simp [Instr.fieldAt,Bk hu,hfk,Sl,fieldPlace,E2 h2,h4,Dv,h1]):p:=h
def Ya3b (h:p:=by have:l.length≠0:=fun h'=>h (Fc.1 h');simp; omega):p:=h
def Ya3c (h:p:=by have:=Ov (p / (H+1) ^ k) (show 0<H+1 by omega);unfold dg; omega):p:=h
def Ya3d (h:p:=by have:=(Iu.1 hd).2; omega):p:=h
def Ya3e (h:p:=by simp only [k1,Cy];exact ⟨a',rfl,k2,.inr (k4 (k3 rfl))⟩):p:=h
def Ya3f (h:p:=by rw [<- c2] at he ⊢; exact ⟨rfl,aA⟩):p:=h
def Ya3g (h:p:=by have:=A5 aa;exact List.length_eq_one_iff.1 (by simpa using this.symm)):p:=h
def Ya3h (h:p:=by rw [nv] at this; simp at this):p:=h
def Ya3i (h:p:=by simp [method,typeInfo,h1,h2,h3,h4,follow,receiverAt,Bk h5,Place.get]):p:=h
def Ya3j (h:p:=by exact ⟨hr.defers,v,h1,v,C',rfl,rfl,hle,hr.sr,hr.S,hr.tk,hr.n,h2⟩):p:=h
def Ya3k (h:p:=by rw [Ae] at h;exact (Iu.1 (Iq h)).2):p:=h
def Ya3l (h:p:=by
 cases U with
 | nil=>simp at q9; omega
 | cons x u=>exact ⟨x,u,rfl⟩):p:=h
def Ya3m (h:p:=by rwa [show o+(i+1)*sz=o+sz+i*sz by rw [Ns]; omega] at this):p:=h
def Ya3n (h:p:=by rw [C9,Fx (by simp)]; simp [val]):p:=h
def Ya3o (h:p:=by obtain ⟨b',o',h1,h2,-⟩:=hcells j x hx;exact ⟨b',o',h1,h2⟩):p:=h
def Ya3p (h:p:=by simp only; show _ / ((1:Int):Rat)=_; rw [Rat.intCast_one]; grind):p:=h
def Ya3q (h:p:=by rw [Dq e];exact ⟨.inr,fun h=>h.resolve_left fun x=>e x.symm⟩):p:=h
def Ya3r (h:p:=by rw [ho] at this;simp only at this;rw [df] at this; simp at this):p:=h
def Ya3s (h:p:=by
 rcases Bz hu with ⟨-,e⟩|⟨e,-⟩
 ·omega
 ·exact absurd rfl e):p:=h
def Ya3t (h:p:=by
 split at he
 ·rename_i r' s1 ho;rw [out ho];exact he
 ·simp at he):p:=h
def Ya3u (h:p:=by exact sum_congr fun j _=>aM):p:=h
def Ya3v (h:p:=by
 refine ⟨fun q h=>?_,fun j=>?_⟩
 ·exact Ya0i
 ·cases j with
  | zero=>exact hs.2
  | succ j=>exact ih.2 j):p:=h
def Ya3w (h:p:=by
 refine ⟨0,?_,Cf _,fun _=>?_⟩
 ·simp only [Cx.tok,Ae]; simp
 ·exact Ya0e):p:=h
def Ya3x (h:p:=by
 induction n using Sq with
 | _ n ih =>
  intro x st hn hI;exact Ya12):p:=h
def Ya3y (h:p:=by
 cases dq:o.dst with
 | none=>rw [dq] at hx; exact hx
 | some d0 =>
  exact Yav):p:=h
def Ya3z (h:p:=by
 by_cases e:j=i
 ·subst e; rw [hx] at hy;exact Ya1k
 ·exact this.2.1 aA):p:=h
def Ya40 (h:p:=by
 by_cases e:i=k
 ·exact Ya15
 ·rw [if_neg e,if_neg (O3 e)]; grind):p:=h
end Go.Proofs.YthelkgdmgihhiaaGreat
