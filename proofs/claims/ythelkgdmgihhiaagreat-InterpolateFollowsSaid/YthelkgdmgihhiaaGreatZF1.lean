/- Part 1. -/
import Derived.KernelRfl
namespace Go.Proofs.YthelkgdmgihhiaaGreat
variable {p:Prop}
set_option linter.defProp false
def aB (h:p:=by first|rfl|simp only [getT,C9,Cm,Cp,digC,digA]):p:=h
def aA (h:p:=by omega):p:=h
def aG (h:p:=by first|rfl|simp only [getT,C9,Cm,Cp,Ar,Ag]):p:=h
def aE (h:p:=by first|omega|(dsimp only; omega)):p:=h
def aD (h:p:=by unfold i64; omega):p:=h
def aF (h:p:=by first|omega|(simp only; omega)):p:=h
def aM (h:p:=by first|rfl|simp only [getT,C9,Cm,Cp,strC,Aq,and_self]):p:=h
def aC (h:p:=by simp; omega):p:=h
def aN (h:p:=by first|rfl|simp only [getT,C9]):p:=h
def aU (h:p:=by and_intros <;> first|rfl|simp only [getT,C9]):p:=h
def aH (h:p:=by first|rfl|assumption):p:=h
def bF (h:p:=by first|rfl|simp only [getT,he,C9,Cm,Cp,strC,and_self]):p:=h
def bG (h:p:=by first|rfl|simp only [getT,C9,Cm,Cp,strC,and_self]):p:=h
def aT (h:p:=by simp only [tys,Ov]):p:=h
def bR (h:p:=by first|rfl|simp only [getT,C9,Cm,Cp,and_self,digC,bigC,zB]):p:=h
def aI (h:p:=by simpa using hlt):p:=h
def bZ (h:p:=by and_intros <;> first|rfl|simp only [getT,C9,Cm,Cp]):p:=h
def aO (h:p:=by simpa using h):p:=h
def aQ (h:p:=by decide +kernel):p:=h
def dB (h:p:=by and_intros <;> first|rfl|simp only [getT,C9,Cm,Cp,digC,digA]):p:=h
def aK (h:p:=by kernel_rfl):p:=h
def aW (h:p:=by simp only [VRs] at h):p:=h
def dC (h:p:=by first|rfl|simp only [getT,C9,Cm,Cp,and_self]):p:=h
def cM (h:p:=by rw [k1,k2,k3,decide_eq_false b4]; exact Iw):p:=h
def aJ (h:p:=by decide):p:=h
def eD (h:p:=by first|rfl|simp only [getT,hfl,C9,Cm,Cp,and_self]):p:=h
def aR (h:p:=by simp at h):p:=h
def aX (h:p:=by simpa using h0):p:=h
def bS (h:p:=by rw [jJ]; exact h.len):p:=h
def aY (h:p:=by simpa using h1):p:=h
def bJ (h:p:=by simp only [execOp,e]):p:=h
def eV (h:p:=by rw [<- gg,iG x y]; exact (Nat.gcd_rec y x).symm ▸ iG y (x % y)):p:=h
def eW (h:p:=by simp only [evC,Bg,Cf] at h; obtain ⟨_,rfl⟩:=h; exact hI):p:=h
def dL (h:p:=by simp only [nth,Bg] at h; subst h; rfl):p:=h
def bA (h:p:=by simpa using hneg):p:=h
def cN (h:p:=by rw [k1,k2,k3,decide_eq_true b4]; rfl):p:=h
def bK (h:p:=by simp only [PR] at hx):p:=h
def aL (h:p:=by grind):p:=h
def Za07 (h:p:=by show m<=(st.S++_).length; rw [Cn]; exact Fh hI.le (Mn _ _)):p:=h
def aZ (h:p:=by simpa using la):p:=h
def bL (h:p:=by simp only [PR] at h):p:=h
def dM (h:p:=by simp only [Ez,okZ,hla,hlb]; simp [de]; omega):p:=h
def Za0c (h:p:=by have:=t.b; simp only [Ch,Ii] at this; exact this.1):p:=h
def Za0d (h:p:=by and_intros <;> first|rfl|simp only [getT,Mm,C9,Cm,Cp]):p:=h
def aV (h:p:=by cases h):p:=h
def bC (h:p:=by simpa using b1):p:=h
def bD (h:p:=by simpa using b2):p:=h
def bM (h:p:=by simp only; omega):p:=h
def Za0i (h:p:=by show (P++[r0]).length+U.length=t.rows.length; simp only [Cn,Cj,Cv] at dq ⊢; omega):p:=h
def Za0j (h:p:=by rw [<- hg,iG x y]; exact (Nat.gcd_rec y x).symm ▸ iG y (x % y)):p:=h
def dD (h:p:=by rw [<- iX]; simp [hu]):p:=h
def bT (h:p:=by simp only [PRs] at h):p:=h
def bN (h:p:=by simpa using hj):p:=h
def Za0n (h:p:=by show (st.S++_).take m=S0; rw [Oq hI.le]; exact hI.S):p:=h
def eE (h:p:=by rw [Af] at hx; exact Ip hx):p:=h
def Za0p (h:p:=by show (p++[y.1]).length+v.length=W; simp only [Cn,Cj,Cv] at px ⊢; omega):p:=h
def bO (h:p:=by simp [nth] at h):p:=h
def bH (h:p:=by simpa using b3):p:=h
def bI (h:p:=by simpa using b4):p:=h
def eX (h:p:=by rw [iG,<- Nat.gcd_rec,iG]; exact gg):p:=h
def Za0u (h:p:=by rw [C6,Sq,<- Gi (x:=r0),Kp (by simp),if_neg (fun h=>oi h.symm)]; exact cd):p:=h
def dN (h:p:=by rw [<- iX]; simp [ht]):p:=h
def eY (h:p:=by simp [execOp,e,resolve,hb,ha,invoke,builtin,q7,h1]):p:=h
def Za0y (h:p:=by rw [l8,hlp]; simp only [C6,Co,Ct,Gr]):p:=h
def Za0z (h:p:=by simp only [mh,hm,Fp,H5,C6,Co,Ct]):p:=h
def Za10 (h:p:=by simp only [wi,hm,Fp,Ng,C6,Co,Ct]):p:=h
def dO (h:p:=by rw [Im]; omega):p:=h
def Za12 (h:p:=by have:=t.b; simp only [Ch,Ii] at this; exact this.2):p:=h
def Za14 (h:p:=by simpa only [C6,Co,Ct,Gr] using fi):p:=h
def eG (h:p:=by unfold B7; rw [ho]; simpa using x):p:=h
def bU (h:p:=by simpa using fh):p:=h
def bW (h:p:=by simp only [VR]):p:=h
def bX (h:p:=by simpa using hn):p:=h
def Za1a (h:p:=by unfold i64; rcases hsb with e|e <;> rw [e] <;> omega):p:=h
def Za1b (h:p:=by rw [kV]; exact Jn (PRs.stays ai _ _ kn) (PRs.stays ai _ _ bm)):p:=h
def cO (h:p:=by simp [Op.operands]):p:=h
def eZ (h:p:=by unfold topV; rw [Fz,Bq]; rfl):p:=h
def cP (h:p:=by rw [k1,k2,k3]; rfl):p:=h
def Za1f (h:p:=by unfold i64; rcases dy with h|h <;> rw [h] <;> omega):p:=h
def dP (h:p:=by have:=bc.iq; omega):p:=h
def bP (h:p:=by simp [hx]):p:=h
def Za1j (h:p:=by rw [<- lK,<- List.map_drop]; exact Gs _):p:=h
def cQ (h:p:=by simp at hi; omega):p:=h
def cA (h:p:=by simpa using h2):p:=h
def cB (h:p:=by simpa using hm):p:=h
def Za1n (h:p:=by simp only [hm,Ax hy,C6,Co,Ct]):p:=h
def Za1o (h:p:=by simp only [hm,Ax hx,C6,Co,Ct]):p:=h
def eH (h:p:=by simp only [Cp,VRs]):p:=h
def Za1q (h:p:=by intro m' em; simp only [Bg] at em; subst em; exact hc):p:=h
def cH (h:p:=by simpa using hl):p:=h
def cC (h:p:=by simpa using cj):p:=h
def cD (h:p:=by simpa using bp):p:=h
def cE (h:p:=by simpa using lb):p:=h
def Za1v (h:p:=by unfold Mm; exact Dh (sz:=4) (f:=fun q=>ceW (qF.rat q)) (fun _=>rfl) l):p:=h
def cR (h:p:=by rw [k1,k2]; rfl):p:=h
def cI (h:p:=by simp only [VRs]):p:=h
def Za1y (h:p:=by simp only [execOp,e,F3,g1,Fv,I4]):p:=h
def Za1z (h:p:=by rw [Af] at hy; exact Ip hy):p:=h
def Za20 (h:p:=by simp only [Cn,Cj] at jv ⊢; exact jv):p:=h
def bV (h:p:=by simp [hq]):p:=h
def Za23 (h:p:=by simp only [hm,C6,Co,Ct]):p:=h
def cJ (h:p:=by simpa using h3):p:=h
def cK (h:p:=by simpa using ek):p:=h
def dR (h:p:=by rw [hsz]; exact b7):p:=h
def cU (h:p:=by simp only [evC]):p:=h
def cV (h:p:=by simpa using hpq):p:=h
def bY (h:p:=by simp [wrS]):p:=h
def eI (h:p:=by rw [h.rows]; exact hi):p:=h
def cW (h:p:=by simpa using hz):p:=h
def cX (h:p:=by rw [hNn,hD,hg]):p:=h
def cY (h:p:=by rw [k1]; rfl):p:=h
def cZ (h:p:=by simp [wrT,ao]):p:=h
def eJ (h:p:=by simp only [sum]; grind):p:=h
def dE (h:p:=by simpa using hx):p:=h
def Za2o (h:p:=by simp only [Cx.tok,if_true]; exact hp):p:=h
def dS (h:p:=by simp at h ⊢; omega):p:=h
def fA (h:p:=by rw [hψ]; simp only; omega):p:=h
def Za2r (h:p:=by intro hh; rw [hh] at g3; simp at g3):p:=h
def dT (h:p:=by simp [smB]; omega):p:=h
def Za2w (h:p:=by simp only [gt_iff_lt] at h; rw [h3] at h; simp at h):p:=h
def Za2x (h:p:=by simp only [Fg]; omega):p:=h
def fB (h:p:=by rw [ym] at hw; simp at hw):p:=h
def fC (h:p:=by simpa only [evC] using he):p:=h
def Za30 (h:p:=by simp only [h1,h2]; simp):p:=h
def cF (h:p:=by simp [h]):p:=h
def Za32 (h:p:=by rw [nd]; exact Du.times _ _ ou ow):p:=h
def Za33 (h:p:=by rw [jf]; exact Du.minus _ _ oz oy):p:=h
def dF (h:p:=by simpa using a7):p:=h
def dG (h:p:=by rw [Dd,h]; rfl):p:=h
def Za36 (h:p:=by rw [jJ,jJ]; exact h.len):p:=h
def fD (h:p:=by simp only [h1,h2]; rfl):p:=h
def Za38 (h:p:=by rw [e] at ml; simp at ml; omega):p:=h
def Za39 (h:p:=by unfold B7 at hd; rw [ho] at hd; simpa using hd):p:=h
def fE (h:p:=by rw [ao] at hb; cases hb):p:=h
def eK (h:p:=by simp [execOp,e,hb]):p:=h
def dU (h:p:=by simp [evC] at h):p:=h
def dV (h:p:=by rw [Am]; omega):p:=h
def Za3e (h:p:=by have h:=ka.T.costE; rw [a8.2.2] at h; exact h):p:=h
def dW (h:p:=by rw [h1]; simp):p:=h
def Za3i (h:p:=by rw [Am,ka.len,ak.len]; exact Ce _):p:=h
def Za3j (h:p:=by rw [hR]; unfold ansC; rw [kY]; rfl):p:=h
def fF (h:p:=by unfold maxLen; omega):p:=h
def eM (h:p:=by rw [hx.1]; simp):p:=h
def fG (h:p:=by simp only [VRs] at hx):p:=h
def fH (h:p:=by simp [Cx.alone] at hi):p:=h
def dH (h:p:=by assumption):p:=h
def Za3p (h:p:=by intro f args S tk n r he; simp [evF] at he):p:=h
def Za3q (h:p:=by simp [PRs,PR,jS]):p:=h
def Za3r (h:p:=by rw [kg]; omega):p:=h
def Za3s (h:p:=by rw [cl j h2.1,bm j h2.1]; exact aw j h1 h2):p:=h
def dX (h:p:=by simpa using re):p:=h
def dI (h:p:=by simp [roomy]):p:=h
def Za3x (h:p:=by rw [k1.av]; exact j1 x o hx):p:=h
def Za3y (h:p:=by have:=Hk (Hl f4 r h); omega):p:=h
def Za3z (h:p:=by rw [F3,Ec (by simp)]; exact h1):p:=h
def fI (h:p:=by simpa [Am] using hi):p:=h
def Za42 (h:p:=by simp only [VRs]; exact ⟨h1,h2,trivial⟩):p:=h
def Za43 (h:p:=by rw [HI.out.rest]; exact I7 _ hb0):p:=h
def Za45 (h:p:=by simp only [Ct]; exact Dm hi):p:=h
def Za47 (h:p:=by simp [Cx.more,hr.S,hr.n]):p:=h
def Za48 (h:p:=by unfold topV; rw [Fp]; rfl):p:=h
def dY (h:p:=by rw [dq]; simp):p:=h
def Za4c (h:p:=by show t1.rows.length+1<=1000000; omega):p:=h
def dJ (h:p:=by rw [d8,x]):p:=h
def Za4e (h:p:=by rw [lP hbel (Ha hv)]; exact hv):p:=h
def Za4f (h:p:=by simp only [oneOf,VR]; exact ⟨_,rfl,h2⟩):p:=h
def fJ (h:p:=by simp [conf,dj,d6]):p:=h
def fK (h:p:=by simpa using hs.h2):p:=h
def fL (h:p:=by simpa using hq.symm):p:=h
def Za4j (h:p:=by unfold Mm; rw [Fg]; omega):p:=h
def fM (h:p:=by rw [hw]; exact hc):p:=h
def fN (h:p:=by have:=l2 r h; omega):p:=h
def Za4m (h:p:=by have:=D4.1 tq.symm; omega):p:=h
def eP (h:p:=by rw [Dd,hx]; rfl):p:=h
def Za4o (h:p:=by rw [setRow_other _ _ _ _ h]; exact hd):p:=h
def Za4p (h:p:=by simp [Cx.tok] at hi; simp [Jy]; omega):p:=h
def Za4q (h:p:=by simp [Op.operands,Call.operands,ao]):p:=h
def Za4r (h:p:=by have h:=gm; rw [a8.2.2] at h; exact h):p:=h
def dK (h:p:=by simp [h1]):p:=h
def eQ (h:p:=by simpa using hu):p:=h
def Za4u (h:p:=by rw [Array.toList_map]; exact M0 hρ _):p:=h
def fO (h:p:=by simpa using hs.h):p:=h
def fP (h:p:=by simp at h; omega):p:=h
def Za4x (h:p:=by simp only at dk; omega):p:=h
def Za4y (h:p:=by rw [<- a8]; exact h1.1):p:=h
def dA (h:p:=by simp [h0]):p:=h
def Za50 (h:p:=by have:=Hk (ar r h); omega):p:=h
def eR (h:p:=by simpa using g2):p:=h
def Za52 (h:p:=by unfold B7; rw [ho]; simpa using e):p:=h
def Za53 (h:p:=by rw [O2]; omega):p:=h
def Za54 (h:p:=by rw [h.cost]; exact hc):p:=h
def Za55 (h:p:=by rw [h.rows]; exact mj):p:=h
def fQ (h:p:=by simp [Lf,e] at hm):p:=h
def fR (h:p:=by rw [hx.2]; simp):p:=h
def Za58 (h:p:=by rw [k1.av]; exact fc o):p:=h
def Za59 (h:p:=by simpa [roomy] using h1):p:=h
def fT (h:p:=by simp [over] at h):p:=h
def fU (h:p:=by simp [Tr]; omega):p:=h
def fV (h:p:=by rw [h.cost,dl]):p:=h
def fW (h:p:=by simpa using hb):p:=h
def Za5e (h:p:=by simp [Cx.more,hr.n]):p:=h
def Za5f (h:p:=by cases t <;> simp [br]):p:=h
def Za5g (h:p:=by have:=gA.pos; omega):p:=h
def Za5h (h:p:=by have:=vr.2.1; omega):p:=h
def fX (h:p:=by simpa using ho):p:=h
def Za5j (h:p:=by rw [Ac mu]; exact qh):p:=h
def dZ (h:p:=by simp at hl):p:=h
def fY (h:p:=by simpa using b6):p:=h
def eU (h:p:=by simp [h.len]):p:=h
def fZ (h:p:=by simp [C0] at hi):p:=h
def gC (h:p:=by split <;> grind):p:=h
def gD (h:p:=by cases q <;> rfl):p:=h
def gE (h:p:=by rw [Dd,hc]; rfl):p:=h
def gF (h:p:=by simpa using hjv):p:=h
def gH (h:p:=by rw [Dd,hy]; rfl):p:=h
def gI (h:p:=by rw [h2]; simp):p:=h
def Za5u (h:p:=by have:=D4.1 e; omega):p:=h
def gJ (h:p:=by simpa using he):p:=h
def Za5w (h:p:=by rw [e1]; exact hrun):p:=h
def Za5x (h:p:=by have:=dz.1; omega):p:=h
def Za5y (h:p:=by have:=g2.1; omega):p:=h
def Za5z (h:p:=by simp [Op.bytesLess]):p:=h
def Za60 (h:p:=by rw [Ak]; exact h.nb):p:=h
def Za61 (h:p:=by rw [Af]; exact hi):p:=h
def Za62 (h:p:=by rw [sj,pg]; omega):p:=h
def gK (h:p:=by simp [wrS,ao]):p:=h
def gL (h:p:=by simpa using cm):p:=h
def gN (h:p:=by simpa using iw):p:=h
def gP (h:p:=by simpa using ha):p:=h
def gQ (h:p:=by simpa using g1):p:=h
def gR (h:p:=by simpa using ca):p:=h
def gT (h:p:=by simpa using cb):p:=h
def gU (h:p:=by simpa using cw):p:=h
def gV (h:p:=by simpa using ko):p:=h
def gX (h:p:=by simpa using lg):p:=h
def gY (h:p:=by simpa using hq):p:=h
def Za6e (h:p:=by rw [hψ]; exact h1):p:=h
def Za6f (h:p:=by simp +contextual):p:=h
def gZ (h:p:=by rw [hy]; rfl):p:=h
def iA (h:p:=by rw [vg,hw]):p:=h
def aP (h:p:=by rw [Aa aD]; omega):p:=h
def aS (h:p:=by rw [Aa aD]; rfl):p:=h
def cG (h:p:=by rw [Gm aA]; rfl):p:=h
def Za6l (h:p:=by simp only [Bg,Cf] at h; obtain ⟨rfl,rfl⟩:=h; exact ⟨rfl,Za3r,oy⟩):p:=h
def bQ (h:p:=by rw [Aa aD]; simp):p:=h
def Za6n (h:p:=by simp only [Bg,Cf] at h; obtain ⟨rfl,rfl⟩:=h; exact ⟨rfl,Za3r,ol⟩):p:=h
def Za6o (h:p:=by by_cases e:j=n - 1; (· rw [e,hx,hy,iw]); exact mf j aE):p:=h
def Za6p (h:p:=by rw [key j aA]; exact h.fr j h1 h2):p:=h
def Za6q (h:p:=by rw [Ae aE,cl j h2.1,bm j h2.1]; exact aw j h1 h2):p:=h
def Za6r (h:p:=by rw [bl]; first|rfl|exact Bb dP):p:=h
def Za6s (h:p:=by rw [Ac (key _ aA)]; exact h.E15):p:=h
def Za6t (h:p:=by simp only [first]; rw [if_neg aA,if_neg aA]):p:=h
def Za6u (h:p:=by rw [Ac (key _ aA)]; exact h.Z):p:=h
def Za6v (h:p:=by rw [Ac (g8 Sf.length (hoN 0 aA))]; exact Bm):p:=h
def Za6w (h:p:=by rw [Ac (g8 _ (qu _ aA aA))]; exact Ad hEf):p:=h
def Za6x (h:p:=by rw [h'] at this; exact absurd this aL):p:=h
def iB (h:p:=by rw [hn,if_neg Za30]):p:=h
def Ya0 (h:p:=by
 subst hM;refine Vq (P:=prog) (fun x st=>st.T.length=56/\(x.1.gcd x.2=g)/\(x.1<9223372036854775808)/\(x.2<9223372036854775808)/\getT st.T 0=.ref iq eq 0/\getT st.T 1=.int (M:Int)/\getT st.T 2=.int (D:Nat)/\getT st.T 6=.ref S.length k 0/\getT st.T 7=.int (x.1:Nat)/\getT st.T 8=.int (x.2:Nat)/\st.S=S++[⟨k,[.int 0,.int 0]⟩]/\st.tk=tk/\st.n=k+1) (fun x=>x.2) (fun x=>(frA r.1,QQ.flS S iq eq r.2,tk,k+1)) ((M:Int).natAbs,D) ?_ ?_;case refine_2=>exact ⟨rfl,cX,aA,aA,rfl,rfl,rfl,rfl,rfl,rfl,rfl,rfl,rfl⟩
 rintro ⟨x,y⟩ ⟨T,S',tk',n'⟩ ⟨hl,gg,hx,hy,e0,e1,e2,e6,e7,e8,eS,eT,eN⟩ IH;simp only at gg hx hy e0 e1 e2 e6 e7 e8 eS eT eN;subst eS eT eN;obtain ⟨g,hg,hT⟩:=Ap hl;rw [hg] at e0 e1 e2 e6 e7 e8;subst hT;clear hg hl;by_cases h0:y=0
 ·subst h0;have c1:(((0:Nat):Int) != 0)=false:=rfl;rw [I6] at gg;subst gg;by_cases h1:1<x
  ·rw [if_pos h1,if_pos h1] at ae;have c2:decide ((x:Int) > 1)=true:=aC
   have hz:¬ ((x:Int)=0):=aA
   have v1:=Bc (M:Int) x;have v2:=Bc (D:Int) x;have w5:B8.wrap ((M:Int).tdiv (x:Int))=(M:Int).tdiv (x:Int):=Aa aD;have w6:B8.wrap ((D:Int).tdiv (x:Int))=(D:Int).tdiv (x:Int):=Aa aD;by_cases b1:(M:Int).tdiv (x:Int)<=-2147483648
   ·have k1:decide ((M:Int).tdiv (x:Int)<=-2147483648)=true:=bC
    rw [if_pos cY] at ae;rw [ae];simp (maxSteps:=10^6)+contextual(disch:=try exact dqd)only[evs0,simprocAttr,Ca,Bo,Cb,results223,e0,e1,e2,e6,e7,e8,c1,c2,hz,w5,w6,b9,hE,hP,hT,hA,k1,frA,Bi]
   have k1:decide ((M:Int).tdiv (x:Int)<=-2147483648)=false:=bC
   by_cases b2:(M:Int).tdiv (x:Int) >= 2147483648
   ·have k2:decide ((M:Int).tdiv (x:Int) >= 2147483648)=true:=bD
    rw [if_pos cR] at ae;rw [ae];simp (maxSteps:=10^6)+contextual(disch:=try exact dqd)only[evs0,simprocAttr,Ca,Bo,Cb,results223,e0,e1,e2,e6,e7,e8,c1,c2,hz,w5,w6,b9,hE,hP,hT,hA,k1,k2,frA,Bi]
   have k2:decide ((M:Int).tdiv (x:Int) >= 2147483648)=false:=bD
   by_cases b3:(D:Int).tdiv (x:Int) >= 2147483648
   ·have k3:decide ((D:Int).tdiv (x:Int) >= 2147483648)=true:=bH
    rw [if_pos cP] at ae;rw [ae];simp (maxSteps:=10^6)+contextual(disch:=try exact dqd)only[evs0,simprocAttr,Ca,Bo,Cb,results223,e0,e1,e2,e6,e7,e8,c1,c2,hz,w5,w6,b9,hE,hP,hT,hA,k1,k2,k3,frA,Bi]
   have k3:decide ((D:Int).tdiv (x:Int) >= 2147483648)=false:=bH
   by_cases b4:(D:Int).tdiv (x:Int)=0
   ·have k4:((D:Int).tdiv (x:Int) == 0)=true:=bI
    rw [if_pos cN] at ae;rw [ae];simp (maxSteps:=10^6)+contextual(disch:=try exact dqd)only[evs0,simprocAttr,Ca,Bo,Cb,results223,e0,e1,e2,e6,e7,e8,c1,c2,hz,w5,w6,b9,hE,hP,hT,hA,k1,k2,k3,k4,frA,Bi]
   have k4:((D:Int).tdiv (x:Int) == 0)=false:=bI
   rw [if_neg cM] at ae;rw [ae];simp (maxSteps:=10^6)+contextual(disch:=try exact dqd)only[evs0,simprocAttr,Ca,Bo,Cb,results223,e0,e1,e2,e6,e7,e8,c1,c2,hz,w5,w6,b9,k1,k2,k3,k4,frA,G0]
  ·rw [if_neg h1,if_neg h1] at ae;have c2:decide ((x:Int) > 1)=false:=aC
   by_cases b1:(M:Int)<=-2147483648
   ·have k1:decide ((M:Int)<=-2147483648)=true:=bC
    rw [if_pos cY] at ae;rw [ae];simp (maxSteps:=10^6)+contextual(disch:=try exact dqd)only[evs0,simprocAttr,Ca,Bo,Cb,results223,e0,e1,e2,e6,e7,e8,c1,c2,b9,hE,hP,hT,hA,k1,frA,Bi]
   have k1:decide ((M:Int)<=-2147483648)=false:=bC
   by_cases b2:(M:Int) >= 2147483648
   ·have k2:decide ((M:Int) >= 2147483648)=true:=bD
    rw [if_pos cR] at ae;rw [ae];simp (maxSteps:=10^6)+contextual(disch:=try exact dqd)only[evs0,simprocAttr,Ca,Bo,Cb,results223,e0,e1,e2,e6,e7,e8,c1,c2,b9,hE,hP,hT,hA,k1,k2,frA,Bi]
   have k2:decide ((M:Int) >= 2147483648)=false:=bD
   by_cases b3:(D:Int) >= 2147483648
   ·have k3:decide ((D:Int) >= 2147483648)=true:=bH
    rw [if_pos cP] at ae;rw [ae];simp (maxSteps:=10^6)+contextual(disch:=try exact dqd)only[evs0,simprocAttr,Ca,Bo,Cb,results223,e0,e1,e2,e6,e7,e8,c1,c2,b9,hE,hP,hT,hA,k1,k2,k3,frA,Bi]
   have k3:decide ((D:Int) >= 2147483648)=false:=bH
   by_cases b4:(D:Int)=0
   ·have k4:((D:Int) == 0)=true:=bI
    rw [if_pos cN] at ae;rw [ae];simp (maxSteps:=10^6)+contextual(disch:=try exact dqd)only[evs0,simprocAttr,Ca,Bo,Cb,results223,e0,e1,e2,e6,e7,e8,c1,c2,b9,hE,hP,hT,hA,k1,k2,k3,k4,frA,Bi]
   have k4:((D:Int) == 0)=false:=bI
   rw [if_neg cM] at ae;rw [ae];simp (maxSteps:=10^6)+contextual(disch:=try exact dqd)only[evs0,simprocAttr,Ca,Bo,Cb,results223,e0,e1,e2,e6,e7,e8,c1,c2,b9,k1,k2,k3,k4,frA,G0]
 ·have c1:((y:Int) != 0)=true:=aX
  have hz:¬ ((y:Int)=0):=aA
  have hm:(x:Int).tmod (y:Int)=((x % y:Nat):Int):=cG
  simp (maxSteps:=10^6)+contextual(disch:=try exact dqd)only[evs0,simprocAttr,Ca,Bo,Cb,results223,e0,e1,e2,e6,e7,e8,c1,hz,hm];have hlt:=I7 x (by omega:0<y);exact IH (y,x % y) _ aF ⟨rfl,eV,hy,aE,aU⟩):p:=h
def Ya1 (h:p:=by
 by_cases b3:(D:Int).tdiv (x:Int) >= 2147483648
 ·have k3:decide ((D:Int).tdiv (x:Int) >= 2147483648)=true:=bH
  rw [if_pos cP] at ae;rw [ae];simp (maxSteps:=10^6)+contextual(disch:=try exact dqd)only[evs0,simprocAttr,Ca,Bo,Cb,results223,e0,e1,e2,e6,e7,e8,c1,c2,hz,w5,w6,b9,hE,hP,hT,hA,k1,k2,k3,frA,Bi]
 have k3:decide ((D:Int).tdiv (x:Int) >= 2147483648)=false:=bH
 by_cases b4:(D:Int).tdiv (x:Int)=0
 ·have k4:((D:Int).tdiv (x:Int) == 0)=true:=bI
  rw [if_pos cN] at ae;rw [ae];simp (maxSteps:=10^6)+contextual(disch:=try exact dqd)only[evs0,simprocAttr,Ca,Bo,Cb,results223,e0,e1,e2,e6,e7,e8,c1,c2,hz,w5,w6,b9,hE,hP,hT,hA,k1,k2,k3,k4,frA,Bi]
 have k4:((D:Int).tdiv (x:Int) == 0)=false:=bI
 rw [if_neg cM] at ae;rw [ae];simp (maxSteps:=10^6)+contextual(disch:=try exact dqd)only[evs0,simprocAttr,Ca,Bo,Cb,results223,e0,e1,e2,e6,e7,e8,c1,c2,hz,w5,w6,b9,k1,k2,k3,k4,frA,G0]):p:=h
def Ya2 (h:p:=by
 by_cases b3:(D:Int) >= 2147483648
 ·have k3:decide ((D:Int) >= 2147483648)=true:=bH
  rw [if_pos cP] at ae;rw [ae];simp (maxSteps:=10^6)+contextual(disch:=try exact dqd)only[evs0,simprocAttr,Ca,Bo,Cb,results223,e0,e1,e2,e6,e7,e8,c1,c2,b9,hE,hP,hT,hA,k1,k2,k3,frA,Bi]
 have k3:decide ((D:Int) >= 2147483648)=false:=bH
 by_cases b4:(D:Int)=0
 ·have k4:((D:Int) == 0)=true:=bI
  rw [if_pos cN] at ae;rw [ae];simp (maxSteps:=10^6)+contextual(disch:=try exact dqd)only[evs0,simprocAttr,Ca,Bo,Cb,results223,e0,e1,e2,e6,e7,e8,c1,c2,b9,hE,hP,hT,hA,k1,k2,k3,k4,frA,Bi]
 have k4:((D:Int) == 0)=false:=bI
 rw [if_neg cM] at ae;rw [ae];simp (maxSteps:=10^6)+contextual(disch:=try exact dqd)only[evs0,simprocAttr,Ca,Bo,Cb,results223,e0,e1,e2,e6,e7,e8,c1,c2,b9,k1,k2,k3,k4,frA,G0]):p:=h
def Ya3 (h:p:=by
 simp (maxSteps:=10^6)+contextual(disch:=try exact dqd)only[ev0,simprocAttr,Ca,Bo,Cb,results54,d0',q0];refine loop1 (P:=prog) (fun x st=>st.T.length=25/\(x.1<=n.natAbs)/\(x.2.1++dig x.1=dig n.natAbs)/\(Be st.tk x.2.2 1=true)/\getT st.T 0=.int n/\getT st.T 2=.ref 0 0 0/\getT st.T 3=.prim (.int .u64 (x.1:Nat))/\getT st.T 4=.frz (x.2.1.map digC) x.2.2/\st.S=[⟨0,[.bool false,.frz [] .nilc]⟩]) (fun x=>x.1) (fun x=>zA n) (n.natAbs,[],.nilc) ?_ ?_;case refine_2=>exact ⟨rfl,Ce _,rfl,rfl,rfl,rfl,rfl,rfl,rfl⟩
 rintro ⟨u,out,c⟩ ⟨T,S',tk',n'⟩ ⟨hl,hu,he,ab,e0,e2,e3,e4,eS⟩ IH;simp only at hu he ab e0 e2 e3 e4 eS;subst eS;obtain ⟨g,hg,hT⟩:=Ap hl;rw [hg] at e0 e2 e3 e4;subst hT;clear hg hl;have hlen:=Am5 he hN;have hr:=Df out;have am:=Ba ab;by_cases h0:u=0
 ·have d1:decide ((u:Int) > 0)=false:=aC
  subst h0;have hd:=Aeb he;subst hd;cases d2:decide (n<0) with
  | true =>
   simp (maxSteps:=10^6)+contextual(disch:=try exact dqd)only[ev0,simprocAttr,Ca,Bo,Cb,results54,e0,e2,e3,e4,d1,d2];simp [zA,bigA,digA,d2]
  | false =>
   simp (maxSteps:=10^6)+contextual(disch:=try exact dqd)only[ev0,simprocAttr,Ca,Bo,Cb,results54,e0,e2,e3,e4,d1,d2];simp [zA,bigA,digA,d2]
 ·have d1:decide ((u:Int) > 0)=true:=aC
  have eo:¬ ((10000:Int)=0):=aA
  have b7:(out.map digC).length+1<=1048576:=aC
  have q1:(u:Int).tmod 10000=((u % 10000:Nat):Int):=by
   rw [Gm aA]; omega
  have q2:B8.wrap ((u % 10000:Nat):Int)=((u % 10000:Nat):Int):=Aa aD;have q3:kN.wrap ((u:Int).tdiv 10000)=((u / 10000:Nat):Int):=by
   rw [Cz aA,Z0 aA aA]; omega
  have hs:=Aec he h0;simp (maxSteps:=10^6)+contextual(disch:=try exact dqd)only[ev0,simprocAttr,Ca,Bo,Cb,results54,e0,e2,e3,e4,d1,eo,q1,q2,q3,hr];exact IH (u / 10000,out++[((u % 10000:Nat):Int)],Ay tk' c 1) _ aF ⟨rfl,aE,hs,am,aB,aB,aB,aB,aB⟩):p:=h
def Ya4 (h:p:=by
 subst hM;refine loop1 (P:=prog) (fun x st=>st.T.length=34/\(x.1.gcd x.2=g)/\(x.1<=100000000000000000)/\(x.2<=100000000000000000)/\getT st.T 0=.int (M:Int)/\getT st.T 1=.int (D:Nat)/\getT st.T 4=.ref 0 0 0/\getT st.T 5=.int (x.1:Nat)/\getT st.T 6=.int (x.2:Nat)/\st.S=[⟨0,[.prim (.bool false),.frz [] .nilc,.prim (.bool false),.frz [] .nilc]⟩]) (fun x=>x.2) (fun x=>.agg (ceW res)) ((M:Int).natAbs,D) ?_ ?_;case refine_2=>exact ⟨rfl,cX,aA,aA,rfl,rfl,rfl,rfl,rfl,rfl⟩
 rintro ⟨x,y⟩ ⟨T,S',tk',n'⟩ ⟨hl,gg,hx,hy,e0,e1,e4,e5,e6,eS⟩ IH;simp only at gg hx hy e0 e1 e4 e5 e6 eS;subst eS;obtain ⟨g,hg,hT⟩:=Ap hl;rw [hg] at e0 e1 e4 e5 e6;subst hT;clear hg hl;by_cases h0:y=0
 ·subst h0;have c1:(((0:Nat):Int) != 0)=false:=rfl;rw [I6] at gg;subst gg;have hz:¬ ((x:Int)=0):=aA
  have v1:=Bc (M:Int) x;have v2:=Bc (D:Int) x;have w5:B8.wrap ((M:Int).tdiv (x:Int))=(M:Int).tdiv (x:Int):=Aa aD;have w6:B8.wrap ((D:Int).tdiv (x:Int))=(D:Int).tdiv (x:Int):=Aa aD;have hA:=fun S tk k=>Pr S tk k ((M:Int).tdiv (x:Int)) aD;have hB:=fun S tk k=>Pr S tk k ((D:Int).tdiv (x:Int)) aD;simp only [zA,bigA,digA] at hA hB;simp (maxSteps:=10^6)+contextual(disch:=try exact dqd)only[ev1,simprocAttr,Ca,Bo,Cb,results167,e0,e1,e4,e5,e6,c1,hz,w5,w6,hA,hB,xF];rw [hr];rfl
 ·have c1:((y:Int) != 0)=true:=aC
  have hz:¬ ((y:Int)=0):=aA
  have hm:B8.wrap ((x:Int).tmod (y:Int))=((x % y:Nat):Int):=by
   have h1:(x:Int).tmod (y:Int)=((x % y:Nat):Int):=cG
   have h2:x % y<y:=I7 _ aA;rw [h1,Aa aD]
  have hlt:x % y<y:=I7 _ aA;simp (maxSteps:=10^6)+contextual(disch:=try exact dqd)only[ev1,simprocAttr,Ca,Bo,Cb,results167,e0,e1,e4,e5,e6,c1,hz,hm];exact IH (y,x % y) _ aF ⟨rfl,eX,aE,aE,aN,aN,aN,aN,aN,aN⟩):p:=h
def Ya5 (h:p:=by
 obtain ⟨y,hy⟩:∃ y,y=qF.minus a0 r0:=⟨_,rfl⟩;have oy:qF.ok y.1:=by rw [hy]; exact Du.minus _ _ oa0 or0
 rw [ai,<- hy] at l8;have tv:B8.wrap ((p.length:Int)+1)=(((p++[y.1]).length:Nat):Int):=bQ
 have ff:=ak.T.fa;have gm:=ak.T.costE;have uh:entAt S' (S.length+2) I.ec=some (flat ga0 (p++a0 :: v)):=Za4r
 have q7:=Au (ce:=ga0) ga1 (Eg (p:=p) (u:=v) (x:=a0));have hrt:=Au (ce:=ga0) ga1 cg;have fo:=ak.E16;have fe:=Nv S' tk' n' iq eq _ a0 r0 oa0 or0 ff;have hg1:=E5 (c:=y.2) ff;rw [<- hy] at fe;obtain ⟨S1a,m9⟩:∃ S1a,S1a=flS S' iq eq y.2:=⟨_,rfl⟩;have ka:=ak.flag (S':=flS S' iq eq y.2) (fun j hj=>ga6 hj) Br ff.fS;rw [<- m9] at fe hg1 ka;have ui:entAt S1a (S.length+2) I.ec=some (flat ga0 (p++a0 :: v)):=Za3e
 have ho:=Bn (ce:=ga0) ga1 (l:=p++a0 :: v) (k:=p.length) (q':=y.1) (by simp);rw [Gi] at ho;have fi:=ka.cost (k':=p++y.1 :: v) (by simp) (fun q hq=>by
  rcases Cu.1 hq with h|h
  ·exact ak.T.okc q cF
  ·rcases C4.1 h with rfl|h
   ·exact oy
   ·exact ak.T.okc q cF)
 rw [a8.2.2] at fi;have jz:∀ x,Ob S'.length (put S1a (S.length+2) x)=put S1a (S.length+2) x:=fun x=>Ff Za3i;simp (maxSteps:=10^6)+contextual(disch:=try exact dqd)only[evg1,simprocAttr,Ca,Bo,Cb,ga29,e0,e1,e2,e7,e10,e11,e12,e14,e15,e16,e18,e19,e83,e84,e85,e194,e195,c2,c6,c7,c7b,tv,uf,l9,uh,q7,hrt,fo,hpW,fe,hg1,ui,ho,jz,Gq,xfs,puQ,tkQ,ga1,ga5];exact IH (put S1a (S.length+2) ⟨I.ec,flat ga0 (p++y.1 :: v)⟩,n'+ua4,p++[y.1],v,Cl fq y.2) _ aF ⟨rfl,Za0y,Za0p,Za14,bZ⟩):p:=h
def Ya6 (h:p:=by
 have c1:((y:Int) != 0)=true:=aC
 have hz:¬ ((y:Int)=0):=aA
 have hm:B8.wrap ((x:Int).tmod (y:Int))=((x % y:Nat):Int):=by
  have h1:(x:Int).tmod (y:Int)=((x % y:Nat):Int):=cG
  have h2:x % y<y:=I7 _ aA;rw [h1,Aa aD]
 have hlt:x % y<y:=I7 _ aA;simp (maxSteps:=10^6)+contextual(disch:=try exact dqd)only[ev1,simprocAttr,Ca,Bo,Cb,results167,e0,e1,e4,e5,e6,c1,hz,hm];exact IH (y,x % y) _ aF ⟨rfl,eX,aE,aE,aN,aN,aN,aN,aN,aN⟩):p:=h
def Ya7 (h:p:=by
 have hk:=hp.ok i x hx;have wt:=hk.2.2.1 rfl;by_cases hbig:10000<=x
 ·have d3:decide (x >= 10000)=true:=by simpa using hbig
  obtain ⟨y,hy⟩:=Ab (show i+1<(out.set i (x - 10000)).length by rw [jJ]; omega);have eg:=D6 hy;have hyk:=hp.ok (i+1) y (by
   rcases B5 hy with ⟨e,-⟩|⟨-,hy⟩
   ·omega
   ·exact hy)
  have hy2:=hyk.2.2.2.1 aA;have hw1:B8.wrap (x - 10000)=x - 10000:=Aa aD;have hw2:B8.wrap (y+1)=y+1:=Aa aD;have c9:=Dn (v:=x - 10000) hx;have yv:=Dn (v:=y+1) hy;simp (maxSteps:=10^6)+contextual(disch:=try exact dqd)only[ev0,simprocAttr,Ca,Bo,Cb,results89,digA,e5,e39,e40,d2,d3,bg,hx',eg,dd,kq,hw1,hw2,c9,yv,Cw];exact IH (i+1,(out.set i (x - 10000)).set (i+1) (y+1)) _ aF ⟨rfl,aE,hp.big hlt hx hbig hy,aB,aB,aB,aB⟩
 ·have d3:decide (x >= 10000)=false:=aC
  simp (maxSteps:=10^6)+contextual(disch:=try exact dqd)only[ev0,simprocAttr,Ca,Bo,Cb,results89,digA,e5,e39,e40,d2,d3,bg,hx',dd,Cw];exact IH (i+1,out) _ aF ⟨rfl,aE,hp.small hlt hx aE,aB,aB,aB,aB⟩):p:=h
def Ya8 (h:p:=by
 have c1:((y:Int) != 0)=true:=aX
 have hz:¬ ((y:Int)=0):=aA
 have hm:(x:Int).tmod (y:Int)=((x % y:Nat):Int):=cG
 simp (maxSteps:=10^6)+contextual(disch:=try exact dqd)only[evs0,simprocAttr,Ca,Bo,Cb,results223,e0,e1,e2,e6,e7,e8,c1,hz,hm];have hlt:=I7 x (by omega:0<y);exact IH (y,x % y) _ aF ⟨rfl,eV,hy,aE,aU⟩):p:=h
def Ya9 (h:p:=by
 subst eS;obtain ⟨g,hg,hT⟩:=Ap hl;rw [hg] at e33 e34 e35;subst hT;clear hg hl;by_cases hlt:i<l.length
 ·have d1:decide ((i:Int)<(l.length:Int))=true:=aI
  obtain ⟨x,hx⟩:=Ab hlt;have hx':=Bd hx;have hw:=Aw (i:=i) aA;rw [Ax hx] at hn;simp only [allD] at hn;simp (maxSteps:=10^6)+contextual(disch:=try exact dqd)only[ev0,simprocAttr,Ca,Bo,Cb,results51,e33,e34,e35,d1,digA,hx',hw];refine ⟨fun h1=>?_,fun h1=>⟨fun h2=>?_,fun h2=>?_⟩⟩
  ·rw [hn,if_pos dK]
  ·rw [hn,if_pos fD]
  ·exact IH (i+1) _ aF ⟨rfl,hlt,iB,aB,aB,aB,aB⟩
 ·have d1:decide ((i:Int)<(l.length:Int))=false:=aI
  have he:i=l.length:=aA
  rw [he,Fp] at hn;simp (maxSteps:=10^6)+contextual(disch:=try exact dqd)only[ev0,simprocAttr,Ca,Bo,Cb,results51,e33,e34,e35,d1,digA];exact hn.symm):p:=h
def Yaa (h:p:=by
 subst eS;obtain ⟨g,hg,hT⟩:=Ap hl;rw [hg] at e1 e3 e4;subst hT;clear hg hl;by_cases hlt:i<l.length
 ·have d1:decide ((i:Int)<(l.length:Int))=true:=aI
  obtain ⟨x,hx⟩:=Ab hlt;have hx':=Bd hx;have hw:=Aw (i:=i) aA;rw [Ax hx] at hn;simp only [allD] at hn;simp (maxSteps:=10^6)+contextual(disch:=try exact dqd)only[ev0,simprocAttr,Ca,Bo,Cb,results198,e1,e3,e4,d1,digA,hx',hw];refine ⟨fun h1=>?_,fun h1=>⟨fun h2=>?_,fun h2=>?_⟩⟩
  ·rw [hn,if_pos dK]
  ·rw [hn,if_pos fD]
  ·exact IH (i+1) _ aF ⟨rfl,hlt,iB,aB,aB,aB,aB⟩
 ·have d1:decide ((i:Int)<(l.length:Int))=false:=aI
  have he:i=l.length:=aA
  rw [he,Fp] at hn;simp (maxSteps:=10^6)+contextual(disch:=try exact dqd)only[ev0,simprocAttr,Ca,Bo,Cb,results198,e1,e3,e4,d1,digA];exact hn.symm):p:=h
def Yab (h:p:=by have hB:=fun S tk k=>Pr S tk k ((D:Int).tdiv (x:Int)) aD;simp only [zA,bigA,digA] at hA hB;simp (maxSteps:=10^6)+contextual(disch:=try exact dqd)only[ev1,simprocAttr,Ca,Bo,Cb,results167,e0,e1,e4,e5,e6,c1,hz,w5,w6,hA,hB,xF];rw [hr];rfl):p:=h
def Yac (h:p:=by
 have hsz:(ini.toArray.push o).size=ini.toArray.size+1:=by simp
 rw [hsz];have a04:Su (ini.toArray.size+1) false=(Su ini.toArray.size false).push false:=by
  rw [Array.replicate_succ]
 rw [a04];refine Afd hg (fun j hj=>?_) (fun e he=>?_) (fun i o' gc=>?_) _ _ _ _ (by simp) (fun j hj=>?_) hw
 ·have:=cq j bN;rw [rn]; simpa using this
 ·have:=hla e (by rw [rn] at he; simpa using he);simpa using this
 ·have b6:=(Ck.1 gc).1;have:=hde i fY;rw [gc] at this;refine ⟨fun e he=>this.1 e he,fun g w hgw=>?_⟩;have h3:=this.2;simp only [hgw] at h3;simpa using h3
 ·rw [F2,Array.getElem?_replicate] at hj;split at hj <;> simp at hj):p:=h
def Yad (h:p:=by
 by_cases ab:B0 st a=true
 ·simp only [ab,if_true];constructor
  ·rintro ⟨n,h⟩;split at h
   ·rename_i s1 h1;have e:@evOs (gM (mdOf a)) P (Ku (mdOf a) P (cL P)) a a st=some s1:=Dc (G:=gM _) (Ah2 n).pure h1;rw [e];simp only [Cd] at h ⊢;obtain ⟨s,h1,h2⟩:=h;exact ⟨s,Dc (Ah2 n) h1,h2⟩
   ·simp at h
  ·intro h;split at h
   ·rename_i s1 h1;simp only [Cd] at h;obtain ⟨s,h2,h3⟩:=h;obtain ⟨n,hn⟩:=Adw h1;obtain ⟨m,hm⟩:=Adv h2;refine ⟨max n m,?_⟩;rw [Dc (G:=gM _) (Er (show n<=max n m by omega)).pure hn];simp only [Cd];exact ⟨s,Dc (Er (show m<=max n m by omega)) hm,h3⟩
   ·simp at h
 ·simp [ab]):p:=h
def Yae (h:p:=by
 have eh:p.length=W:=js;refine ak.T.add (b:=c+i) (f:=fb) ?_ ?_ hbF ?_ (by show rowZ.length=p.length; omega) orowZ (fun q hq=>?_) ?_ (ak.T.fa.of (k8 iq aA aA (fun _=>⟨aA,aA⟩))) hAp Za4c (by show c+i<p.length; omega)
 ·rw [a8.1,a8.2.1,htF,zr]; simp only [a8.2.2,eh,cq,j8,ig,intA]
 ·rw [hrF]; simp only [eh]
 ·rw [Ac (k8 (L+1) aA aA (fun h=>⟨by have:=ak.low.ir (hne h); omega,by have:=ak.low.ib (hne h); omega⟩))]; exact ak.E16
 ·have b9:=ak.T.ap.row q hq;have hq2:=ak.low.row q hq;exact k8 q.1 aA (by have:=j9.2.2 q hq; omega) (fun _=>⟨b9.2.1,b9.2.2.2.1⟩)
 ·exact k8 _ (by have:=ak.low.ic; omega) aA (fun _=>⟨ak.T.ap.rc.symm,ak.T.ap.cb⟩)):p:=h
def Yaf (h:p:=by
 refine ⟨fun h1=>?_,fun h1=>⟨fun h2=>?_,fun h2=>⟨fun h3=>?_,fun h3=>?_⟩⟩⟩
 ·rw [if_pos h1] at hm;exact IH (i+1,j,o++[x],Ay tk' c 2) _ aF ⟨rfl,aE,hj,aC,am,Za1n,aG,aG,aG,aG,aG,aG,aG⟩
 ·rw [if_neg dW,if_pos h2] at hm;exact IH (i,j+1,o++[y],Ay tk' c 2) _ aF ⟨rfl,hi,aE,aC,am,Za1o,aG,aG,aG,aG,aG,aG,aG⟩
 ·have yg:¬ x.2+y.2=0:=cJ
  rw [if_neg dW,if_neg gI,if_neg yg] at hm;exact IH (i+1,j+1,o++[(x.1,x.2+y.2)],Ay tk' c 2) _ aF ⟨rfl,aE,aE,aC,am,Za23,aG,aG,aG,aG,aG,aG,aG⟩
 ·have yg:x.2+y.2=0:=cJ
  rw [if_neg dW,if_neg gI,if_pos yg] at hm;exact IH (i+1,j+1,o,c) _ aF ⟨rfl,aE,aE,aE,ab,hm,aG,aG,aG,aG,aG,aG,aG⟩):p:=h
def Yag (h:p:=by rw [if_pos cR] at ae;rw [ae];simp (maxSteps:=10^6)+contextual(disch:=try exact dqd)only[evs0,simprocAttr,Ca,Bo,Cb,results223,e0,e1,e2,e6,e7,e8,c1,c2,hz,w5,w6,b9,hE,hP,hT,hA,k1,k2,frA,Bi]):p:=h
def Yah (h:p:=by rw [if_pos cY] at ae;rw [ae];simp (maxSteps:=10^6)+contextual(disch:=try exact dqd)only[evs0,simprocAttr,Ca,Bo,Cb,results223,e0,e1,e2,e6,e7,e8,c1,c2,hz,w5,w6,b9,hE,hP,hT,hA,k1,frA,Bi]):p:=h
def Yai (h:p:=by rw [if_pos cR] at ae;rw [ae];simp (maxSteps:=10^6)+contextual(disch:=try exact dqd)only[evs0,simprocAttr,Ca,Bo,Cb,results223,e0,e1,e2,e6,e7,e8,c1,c2,b9,hE,hP,hT,hA,k1,k2,frA,Bi]):p:=h
def Yaj (h:p:=by rw [if_pos cY] at ae;rw [ae];simp (maxSteps:=10^6)+contextual(disch:=try exact dqd)only[evs0,simprocAttr,Ca,Bo,Cb,results223,e0,e1,e2,e6,e7,e8,c1,c2,b9,hE,hP,hT,hA,k1,frA,Bi]):p:=h
def Yak (h:p:=by rw [d3] at d1;simp (maxSteps:=10^6)+contextual(disch:=try exact dqd)only[ev1,simprocAttr,Ca,Bo,Cb,results184,zA,bigA,digA,d1,d3,hL,hM,hp,Fq,Fo]):p:=h
def Yal (h:p:=by
 have hw2:B8.wrap (x+c+y)=x+c+y:=Aa aD;have po:B8.wrap ((x+c+y).tdiv 10000)=(x+c+y).tdiv 10000:=by
  rw [Cz aA]; exact Aa aD
 simp (maxSteps:=10^6)+contextual(disch:=try exact dqd)only[ev0,simprocAttr,Ca,Bo,Cb,results265,e1,e5,e6,e20,e21,e22,digA,d2,d3,hx',eg,bg,hw1,hw2,po,eo,hr];exact IH (i+1,zs++[(x+c+y).tmod 10000],(x+c+y).tdiv 10000,Ay tk' cp 1) _ aF ⟨rfl,aE,hI.step hx gZ hxk hyk rfl,am,aB,aB,aB,aB,aB,aB,aB⟩):p:=h
def Yam (h:p:=by
 have po:B8.wrap ((x+c).tdiv 10000)=(x+c).tdiv 10000:=by
  rw [Cz aA]; exact Aa aD
 simp (maxSteps:=10^6)+contextual(disch:=try exact dqd)only[ev0,simprocAttr,Ca,Bo,Cb,results265,e1,e5,e6,e20,e21,e22,digA,d2,d3,hx',bg,hw1,po,eo,hr];exact IH (i+1,zs++[(x+c).tmod 10000],(x+c).tdiv 10000,Ay tk' cp 1) _ aF ⟨rfl,aE,hI.step (y:=0) hx (by rw [Af,C3 aE]; rfl) hxk aE aE,am,aB,aB,aB,aB,aB,aB,aB⟩):p:=h
def Yan (h:p:=by
 refine ⟨hl2.os,hl2.tape,hl2.output,hl2.size,rfl,Nat.le_succ_of_le hl2.n,fun x o hx hm=>?_,hl2.cell,hl2.keep,hl2.shape,fun id e' he hn=>?_,hl2.tok⟩
 ·rcases Zm hm with h|h
  ·exact hl2.mt x o hx h
  ·omega
 ·rcases Lh he with ⟨h1,h2⟩|⟨h1,h2⟩
  ·subst h2;have:=hl2.n;simp only at this hn;omega
  ·obtain ⟨w1,w2,w3,w4⟩:=hl2.ent id e' h2 hn;refine ⟨w1,w2,w3,?_⟩;simp only [Cx.rev];rw [if_neg aA];exact w4):p:=h
def Yao (h:p:=by have hJ:=fun S tk k=>Ajr S tk k (decide (an<0)) (dig an.natAbs) (decide (ad<0)) (dig ad.natAbs) (decide (bn<0)) (dig bn.natAbs) (decide (bd<0)) (dig bd.natAbs) aA aA aA aA;rw [g1,g2,g3,g4] at hJ;simp only [resQ,qA,ratA,ceW,digA] at ba ah hJ ⊢;simp (maxSteps:=10^6)+contextual(disch:=try exact dqd)only[ev1,simprocAttr,Ca,Bo,Cb,results139,ba,ah,hJ];rw [hr]; exact ⟨rfl,rfl,rfl,rfl⟩):p:=h
def Yap (h:p:=by have hJ:=fun S tk k=>Ajq S tk k (decide (an<0)) (dig an.natAbs) (decide (ad<0)) (dig ad.natAbs) (decide (bn<0)) (dig bn.natAbs) (decide (bd<0)) (dig bd.natAbs) aA aA aA aA;rw [g1,g2,g3,g4] at hJ;simp only [resQ,qA,ratA,ceW,digA] at ba ah hJ ⊢;simp (maxSteps:=10^6)+contextual(disch:=try exact dqd)only[ev1,simprocAttr,Ca,Bo,Cb,results188,ba,ah,hJ];rw [hr]; exact ⟨rfl,rfl,rfl,rfl⟩):p:=h
def Yaq (h:p:=by have hJ:=fun S tk k=>Ac8 S tk k (decide (an<0)) (dig an.natAbs) (decide (ad<0)) (dig ad.natAbs) (decide (bn<0)) (dig bn.natAbs) (decide (bd<0)) (dig bd.natAbs) aA aA aA aA;rw [g1,g2,g3,g4] at hJ;simp only [resQ,qA,ratA,ceW,digA] at ba ah hJ ⊢;simp (maxSteps:=10^6)+contextual(disch:=try exact dqd)only[ev1,simprocAttr,Ca,Bo,Cb,results179,ba,ah,hJ];rw [hr]; exact ⟨rfl,rfl,rfl,rfl⟩):p:=h
def Yar (h:p:=by have hJ:=fun S tk k=>Ajp S tk k (decide (an<0)) (dig an.natAbs) (decide (ad<0)) (dig ad.natAbs) (decide (bn<0)) (dig bn.natAbs) (decide (bd<0)) (dig bd.natAbs) aA aA aA aA;rw [g1,g2,g3,g4,<- hr] at hJ;simp only [ratA,ceW,digA] at ba ah hJ ⊢;simp (maxSteps:=10^6)+contextual(disch:=try exact dqd)only[ev1,simprocAttr,Ca,Bo,Cb,results178,ba,ah,hJ,Fs,Fu]):p:=h
def Yas (h:p:=by simp only [q8,Cd,Cf] at bu;obtain ⟨cs,-,-,rfl⟩:=bu;simp only;rw [Af,Af,Cy aA]):p:=h
def Yat (h:p:=by exact IH (i+1,n.tdiv 10000,out++[n.tmod 10000],Ay tk' c 1) _ aF ⟨rfl,ai,aE,am,aE,aB,aB,aB,aB,aB,aB⟩):p:=h
def Yau (h:p:=by obtain ⟨i,hi⟩:=List.getElem?_of_mem hp;have b6:=(F9.1 hi).1;obtain ⟨r,hr⟩:=Ab (show i<t.rows.length by rw [<- h.nids]; exact b6);exact A7 (h.rowE i p r Za61 hr)):p:=h
def Yav (h:p:=by subst he;have dn:=hp.done;have hT:=fun tk k=>Gc [⟨0,out.map numC⟩] tk k out 0 0 aA rfl;rw [hlen] at hT;have jo:=Td (m:=0) (id:=0) (ep:=0) (S:=[⟨0,out.map numC⟩]) (Ce _) rfl (G9 out);rw [<- Dl,dn] at jo;rw [dn] at hT;simp (maxSteps:=10^6)+contextual(disch:=try exact dqd)only[ev0,simprocAttr,Ca,Bo,Cb,results89,digA,e5,e39,e40,d2,hT,jo]):p:=h
def Yaw (h:p:=by
 cases c with
 | unk=>trivial
 | tight=>exact hc
 | nilc=>exact hc
 | nl=>exact hc
 | nn=>exact hc
 | tok id ep sz =>
  obtain ⟨k,h1,h2,h3⟩:=hc;obtain ⟨k',h4,h5,h6⟩:=h.tok id k h1;refine ⟨k',h4,aA,fun e=>?_⟩;rcases h3 aA with h7|⟨b,cs,t,ea,hp,hb,hl⟩
  ·exact .inl h7
  ·obtain ⟨cs',h8,h9⟩:=h.shape b cs t _ hb;exact .inr ⟨b,cs',t,ea,by rw [h6 aA,hp],h8,aA⟩):p:=h
def Yax (h:p:=by
 have c1:(sysE l != 0)=false:=aX
 simp only [ansC,lsC,ceW,Ao,Aq,Co,Ct] at hA;simp only [Ao,Aq] at hC hV;refine opP func23 ntmps23 (hp3:=rfl) ?_;simp (maxSteps:=10^6)+contextual(disch:=try exact dqd)only[ev1,simprocAttr,Ca,Bo,Cb,results23,Ao,Aq,hC,hV,hA,c1,h0];try (intro h; exact absurd h aJ)):p:=h
def Yay (h:p:=by have hws:B8.wrap (x+d)=x+d:=Aa aD;have c9:=Dn (v:=x+d) hx;simp (maxSteps:=10^6)+contextual(disch:=try exact dqd)only[ev0,simprocAttr,Ca,Bo,Cb,results89,digA,e0,e5,e23,e24,e25,d2,d8,bg,hx',dd,hws,c9,Cw];exact IH (i+1,out.set i (x+d)) _ aF ⟨rfl,aE,hp.step aE hx hd,aB,aB,aB,aB,aB,aB⟩):p:=h
def Yaz (h:p:=by simp only [VR] at hx ⊢;obtain ⟨b,a,cap,h0,h0',h0'',hn,hx⟩:=hx;refine ⟨b,a,cap,h0,h0',h0'',F7 hn h.n,fun e' he p6=>?_⟩;obtain ⟨e,h1,h2,h3⟩:=h.ent id e' he aA;obtain ⟨g1,cs,t,g2,g3⟩:=hx e h1 aA;obtain ⟨cs',g4,g5⟩:=h.shape b cs t _ g2;exact ⟨by rw [h3]; exact g1,cs',t,g4,aA⟩):p:=h
def Ya00 (h:p:=by
 refine ⟨fun q h=>?_,fun j=>?_⟩
 ·rcases C4.1 h with rfl|h
  ·exact hs.1
  ·exact ih.1 q h
 ·cases j with
  | zero=>exact hs.2
  | succ j=>exact ih.2 j):p:=h
def Ya01 (h:p:=by
 refine ⟨fun q h=>?_,fun q h=>?_,fun n j hn=>?_⟩
 ·rcases C4.1 h with rfl|h
  ·exact hs.1
  ·exact ih.1 q h
 ·rcases C4.1 h with rfl|h
  ·exact hs.2.1
  ·exact ih.2.1 q h
 ·cases n with
  | zero=>exact hs.2.2 j
  | succ n =>
   have:=ih.2.2 n j bX;rw [show k+1+n=k+(n+1) by omega] at this;exact this):p:=h
def Ya02 (h:p:=by subst fv;have hT:=fun c' S tk k=>Zl S tk k (zs++[c]) c' aC;rw [hI.done hle] at hT;simp only [C9,Cm,Cp,digC,digA] at hT;simp (maxSteps:=10^6)+contextual(disch:=try exact dqd)only[ev0,simprocAttr,Ca,Bo,Cb,results265,e1,e5,e6,e20,e21,e22,digA,d2,hr,hT]):p:=h
def Ya03 (h:p:=by
 rename_i t' l' c' q8;simp only [q8,Cd,Prod.exists] at bu;obtain ⟨l0,sz0,cs0,-,hh⟩:=bu;split at hh
 ·simp only [Cf] at hh;obtain ⟨-,rfl⟩:=hh;rfl
 ·simp only [Cf] at hh;obtain ⟨-,rfl⟩:=hh;simp only;rw [Af,Af,Cy aA]):p:=h
def Ya04 (h:p:=by have hq:=ml.h;have:=Uk (P:=P) (fn:=fn) (st:=st) (k:=k) (id:=id) (ops:=ops.toArray) fO fK aO;simp only [kX,hq] at this;exact this):p:=h
def Ya05 (h:p:=by refine ⟨rfl,rfl,rfl,rfl,rfl,rfl,rfl,by simp [Cx.tok],by simp [Cx.tok,Jy],fun i hi=>Za4p,fun i k hk=>?_⟩;have hlt:=Bl hk;refine ⟨k,?_,Ce _,fun _=>by simp [Jy]; omega⟩;simp only [Cx.tok];rw [Af] at hk ⊢;rw [Cy hlt]; exact hk):p:=h
def Ya06 (h:p:=by
 obtain ⟨ex,s2⟩:=x;cases ex with
 | normal=>exact absurd h (hne s2)
 | exit id=>rfl
 | ret=>rfl):p:=h
def Ya07 (h:p:=by simp (maxSteps:=10^6)+contextual(disch:=try exact dqd)only[ev1,simprocAttr,Ca,Bo,Cb,results186,ratA,digA,hA,hB,ba,ah,hP,d1]):p:=h
def Ya08 (h:p:=by rw [de] at hx;simp only [Act.put,Sl] at hx;rw [List.getElem?_set_ne (fun h=>jf (by rw [de,h]))] at hx;exact hx):p:=h
def Ya09 (h:p:=by have hd:=Int.emod_add_mul_ediv (r*10000+x) b;rw [Int.add_mul,I1,<- H9,Fy ((r*10000+x) / b)];generalize b*((r*10000+x) / b)=t at *;generalize (r*10000+x) % b=u at *;rw [H9];generalize val (out.drop m)*b=w at *;omega):p:=h
def Ya0a (h:p:=by unfold Oper.wp;rw [hrun];refine Calls.mono hC ?_;rintro e' w' ⟨v,C',rfl,rfl,k1,k2,k3,k4,k5,k6⟩;exact hn v C' k1 k2 k3 k4 k5 k6):p:=h
def Ya0b (h:p:=by exact Me rfl (Av3 S l vars fl k iq eq c W nz z.1 ⟨hl,ly,hv,hc,gi,py,wj,ql⟩ oz Φ i b6 r hr sl o6 t1 I cp tk' ig hcl cq j8 ab a8 j9 L m0 nu u hU ou SX nx _ ii hR back _ rfl rfl rfl rfl rfl rfl rfl rfl rfl rfl rfl h18 rfl rfl rfl rfl rfl rfl rfl)):p:=h
def Ya0c (h:p:=by subst e; exact ⟨iU,fun _=>Ce _⟩):p:=h
def Ya0d (h:p:=by
 split at he
 ·rename_i ab;simp only [ab,if_true];split at he
  ·rename_i s1 h1;rw [Dc (G:=gM _) h.pure h1];simp only [Cd] at he ⊢;obtain ⟨x,h1,h2⟩:=he;exact ⟨x,Dc h h1,h2⟩
  ·simp at he
 ·simp at he):p:=h
def Ya0e (h:p:=by
 simp only [Ao] at hC;have c1:(sysE l != 0)=true:=aX
 refine opP func23 ntmps23 (hp3:=rfl) ?_;simp (maxSteps:=10^6)+contextual(disch:=try exact dqd)only[ev1,simprocAttr,Ca,Bo,Cb,results23,Ao,hC,c1,h0]):p:=h
def Ya0f (h:p:=by
 have lh:=grownCap_ge w 1 0 3;refine ⟨_,rfl,Ajn (zs:=[x]) hbase (Az w.drew _) lh (grownCap_le_maxLen w 1 0 _ aA) ?_ ?_,((F1 _ _).drew).alloc hbase _⟩
 ·rw [qd]; simp [size_zeroCells,a1a]; omega
 ·simp):p:=h
def Ya0g (h:p:=by
 split at ho
 ·rename_i hn;rw [if_pos hn];unfold runN at ho ⊢;split at ho
  ·split at ho
   ·rename_i q1 q2;rw [one q1,one q2]; exact ho
   ·simp at ho
  ·exact one ho
 ·rename_i hn;rw [if_neg hn];exact one ho):p:=h
def Ya0h (h:p:=by exact IH (put S3 S.length ⟨k,ga0 y.1⟩,n2+1+ua4+ua3,P++[r0],U,some (P.length,y.1),Cl fq (Cl y.2 d.2)) _ aF ⟨rfl,jq,fm,hTn,⟨_,Ah aE,ga1 _,fun bi' q h=>Za6l⟩,dV,fun j h1 h2=>Za6q,aU⟩):p:=h
def Ya0i (h:p:=by
 cases hp:ops[j]? with
 | none=>rw [hp] at dj; simp at dj
 | some p =>
  rw [hp] at dj;refine confl j p hp ?_ ?_ hne
  ·rcases dk with dk|dk <;> simp [conf,dj,dk]
  ·rcases dk with dk|dk <;> simp [conf,dj,dk]):p:=h
def Ya0j (h:p:=by
 refine ⟨rfl,rfl,by simp,fun r h=>aV,fun r h=>aV,fun q h=>?_,fun i h=>aR,fun j=>?_,fun i h=>aR,rfl⟩
 ·rw [(It.1 h).2]; exact w.1
 ·rw [Ako w.2];split
  ·show (0:Rat)=- 0;grind
  ·rfl):p:=h
def Ya0k (h:p:=by
 rcases B5 hu with ⟨e,-⟩|⟨-,hu⟩
 ·omega
 ·exact h.high j u hj hu):p:=h
def Ya0l (h:p:=by
 have hb:0<B:=aA
 subst h;constructor
 ·rw [Int.add_comm,Int.add_mul_ediv_right _ _ aA,Int.ediv_eq_zero_of_lt h0 h1]; omega
 ·rw [Int.add_comm,Int.add_mul_emod_self_right,Int.emod_eq_of_lt h0 h1]):p:=h
def Ya0m (h:p:=by rw [hc] at hC;simp only [digA] at hC hM;simp (maxSteps:=10^6)+contextual(disch:=try exact dqd)only[ev1,simprocAttr,Ca,Bo,Cb,results260,iq1,iq2,iq3,iq4,iq5,zA,bigA,digA,d1,hC,hM]):p:=h
def Ya0n (h:p:=by
 rw [r2.2.2 i' j (by rw [Ak,h.rows]; exact au),Lz eI,d2.2];unfold Simp.pivT;by_cases e:i'=i
 ·subst e;rw [if_pos aA,if_pos rfl,if_pos rfl,d2.2]; rfl
 ·rw [if_neg aA,if_neg e,if_neg e]; rfl):p:=h
def Ya0o (h:p:=by have:=congrArg List.length hl;simp only [List.length_drop,Cj,h.rows] at this;omega):p:=h
def Ya0p (h:p:=by simp only [VR] at hx ⊢;obtain ⟨b,h0,hn,hx⟩:=hx;refine ⟨b,h0,F7 hn h.n,fun e' he p6=>?_⟩;obtain ⟨e,h1,h2,h3⟩:=h.ent id e' he aA;rw [h3]; exact hx e h1 aA):p:=h
def Ya0q (h:p:=by
 rcases hc with hc|⟨cs,t,ha,hp,hb,hl⟩
 ·exact .inl hc
 ·exact .inr ⟨b,cs,t,ha,Za2o,hb,hl⟩):p:=h
def Ya0r (h:p:=by have:=hle.trans (Le.of_below (C:=C1) hbel);rw [show ({ C1.hid arr t with av:=C.av } : Cx)=C1.at (C1.w.alloc (.cells arr t)) from by unfold Cx.hid Cx.at; rw [hle.av]];exact this):p:=h
def Ya0s (h:p:=by simp (maxSteps:=10^6)+contextual(disch:=try exact dqd)only[ev1,simprocAttr,Ca,Bo,Cb,results261,ratA,digA,l6,l7,wz,ci,bl,hD,hO,dz,Fq,Fo]):p:=h
def Ya0t (h:p:=by
 have h3:=hD.t2 t fun j hj=>ht j ((az j).2 (.inr hj));cases d8:o.dst with
 | none=>simp only [putT]; exact h3
 | some d =>
  simp only [putT];rw [Da (fun x=>hne dJ)];exact h3):p:=h
def Ya0u (h:p:=by exact IH (S3,n2+1+ua4+ua3,P++[r0],U,some (bi,least),Cl fq (Cl y.2 d.2)) _ aF ⟨rfl,jq,fm,xc,⟨_,Za5j,ga1 _,fun bi' q h=>Za6n⟩,aE,fun j h1 h2=>Za3s,aU⟩):p:=h
def Ya0v (h:p:=by rw [F6] at hc;obtain ⟨c',ew,rfl⟩:=hc;rw [S7] at ew;obtain ⟨r,hr,ew⟩:=ew;exact Fc.1 (Fc.1 hp r hr) c' ew):p:=h
def Ya0w (h:p:=by
 simp only [Instr.indexAt,asIntOf,F3,I4,Fv,Bt he];have:(0:Int)<=(k:Int)/\(k:Int)<(n:Int):=aA
 simp [So,this,Gk hs,D7]):p:=h
def Ya0x (h:p:=by refine (H4 hc ju ho fun u C2 k1 k2 k3 k4 k5 k6=>?_).1;simp only [Bg] at h2;subst h2;exact hQ _ C2 (hle.trans k1) (ju.put k1 k2 k3 k4 k5 k6 hT)):p:=h
def Ya0y (h:p:=by
 by_cases h:c
 ·simp [h]; intro h'; cases h'
 ·simp [h]; rfl):p:=h
def Ya0z (h:p:=by
 by_cases h:c
 ·simp [h]; rfl
 ·simp [h]; intro h'; cases h'):p:=h
def Ya10 (h:p:=by simp only [Bg] at h; subst h;refine .mk ?_;rw [F3,Ec (by simp)];simp only [Fv,binOp,F3,Qy he,I4]):p:=h
def Ya11 (h:p:=by simp (maxSteps:=10^6)+contextual(disch:=try exact dqd)only[ev1,simprocAttr,Ca,Bo,Cb,results251,ratA,digA,hA,hB,hK,hO1,hO2,ra,hO4,ba,ah,hS,hM]):p:=h
def Ya12 (h:p:=by
 simp only [Instr.indexAt,asIntOf,F3,I4,Fv,Bt (Eb he)];have:(0:Int)<=(k:Int)/\(k:Int)<(len:Int):=aA
 simp [this,Gk hs,D7]):p:=h
def Ya13 (h:p:=by
 simp only [Act.put,Sl] at hx;rw [List.getElem?_set] at hx;simp only [if_true] at hx;split at hx
 ·simpa using hx.symm
 ·simp at hx):p:=h
def Ya14 (h:p:=by simp only [Cd,Cf] at h;obtain ⟨cs,_,rfl,rfl⟩:=h;exact ⟨Za0n,Za07,hI.tk,slot rfl (fun _=>⟨_,_,_,rfl,hI.le⟩)⟩):p:=h
def Ya15 (h:p:=by rw [Yb];exact h x st hI fun y st' hlt hy=>ih (μ y) (hn ▸ hlt) y st' rfl hy):p:=h
def Ya16 (h:p:=by have:=Bh gy;rw [h5,Qr] at this;simp at this ⊢;omega):p:=h
def Ya17 (h:p:=by simp (maxSteps:=10^6)+contextual(disch:=try exact dqd)only[ev1,simprocAttr,Ca,Bo,Cb,results251,ratA,digA,hA,hB,hK,hw1,hw2,d1,d2]):p:=h
def Ya18 (h:p:=by have h3:n.natAbs.gcd d.natAbs<=d.natAbs:=kJ _ aA;exact Fh (A9.2 (Iu h3 (A9.1 (Ce _)))) hd):p:=h
def Ya19 (h:p:=by
 rcases (az j).1 hj with rfl|hj
 ·exact mg e he
 ·exact hD.closed j hj e he):p:=h
def Ya1a (h:p:=by simp (maxSteps:=10^6)+contextual(disch:=try exact dqd)only[ev1,simprocAttr,Ca,Bo,Cb,results229,iq1,iq2,iq3,iq4,iq5,Nd,digA]):p:=h
def Ya1b (h:p:=by rw [hr];simp (maxSteps:=10^6)+contextual(disch:=try exact dqd)only[evs0,simprocAttr,Ca,Bo,Cb,results220,frA,k1,k2,new1a,Ji]):p:=h
def Ya1c (h:p:=by have hr:=Reach.run R;rw [h0] at hr;exact ⟨fun c hc=>Mr hM hI hX hr (by have:=R.LN; omega),fun r s h1 h2 h3=>Qv hM hI hX hr h1 h2 h3⟩):p:=h
def Ya1d (h:p:=by subst hr;simp (maxSteps:=10^6)+contextual(disch:=try exact dqd)only[ev1,simprocAttr,Ca,Bo,Cb,results178,ba,ah,v1,v2,k1,k2]):p:=h
def Ya1e (h:p:=by simp (maxSteps:=10^6)+contextual(disch:=try exact dqd)only[ev1,simprocAttr,Ca,Bo,Cb,results107,hC,d0];simp [Hg,h0,linA,Ag]):p:=h
def Ya1f (h:p:=by unfold apO;rw [h]; simp only [hl];rw [if_pos ⟨aA,dI⟩];simp only [apO2,hE];rw [if_pos ⟨trivial,h0⟩];rw [if_pos ⟨aA,Za59⟩]):p:=h
def Ya1g (h:p:=by exact IH (u.tdiv 10000,out++[((u.natAbs % 10000:Nat):Int)],Ay tk' c 1) _ aF ⟨rfl,aD,by rw [t2]; exact hs,am,aB,aB,aB,aB,aB⟩):p:=h
def Ya1h (h:p:=by
 cases U with
 | nil=>simp at rg; omega
 | cons x u=>exact ⟨x,u,rfl⟩):p:=h
def Ya1i (h:p:=by rw [hK];exact ⟨l1,aA,hneg,fun j hj=>vj j (Ci _) hj,l2,fun i' au hp=>(l5 i' au hp).1,fun i' au hp=>(l5 i' au hp).2⟩):p:=h
def Ya1j (h:p:=by simp only [over,Cd] at h;obtain ⟨x,h,rfl⟩:=h;simp only [Co,over,Aqy p h,Fa]):p:=h
def Ya1k (h:p:=by simp only [VR] at hx ⊢;obtain ⟨b,o,vs,e,hl,hr⟩:=hx;exact ⟨b,o,vs,e,hl.stays h.stays,PRs.stays h.stays cs vs hr⟩):p:=h
def Ya1l (h:p:=by
 cases hp:ops[j]? with
 | none=>rw [hp] at dj; simp at dj
 | some p =>
  rw [hp] at dj;have:=(confl j p hp fJ fJ aA).1 h4;omega):p:=h
def Ya1m (h:p:=by simp (maxSteps:=10^6)+contextual(disch:=try exact dqd)only[ev0,simprocAttr,Ca,Bo,Cb,results57,hV,hv];rfl):p:=h
def Ya1n (h:p:=by have:=Ic.2 this;simp; omega):p:=h
def Ya1o (h:p:=by simp only [A8,D3,h1,h2,h3,h4,hpp,Kh,h5]; rfl):p:=h
def Ya1p (h:p:=by simp (maxSteps:=10^6)+contextual(disch:=try exact dqd)only[ev1,simprocAttr,Ca,Bo,Cb,results141,d1,d2]):p:=h
def Ya1q (h:p:=by simp only [Cx.tok];obtain ⟨x,hx⟩:=Ab (l:=put C.tk id (ep+1)) (i:=id) (by rw [Am]; exact Bl h.2);rw [hx,En hx]):p:=h
def Ya1r (h:p:=by exact IH (n - 1) _ aF ⟨rfl,aE,fun j hj=>Za6o,aB,aB,aB,aB⟩):p:=h
def Ya1s (h:p:=by unfold apO;rw [h]; simp only [hl];rw [if_pos ⟨aA,dI⟩];rfl):p:=h
def Ya1t (h:p:=by
 rw [di,dh];intro q hq;rcases Bx hq with rfl|hq
 ·exact od
 ·rcases Bx hq with rfl|hq
  ·exact oo
  ·exact orowY q hq):p:=h
def Ya1u (h:p:=by have:=(F9.1 hj).1;simp at this; omega):p:=h
def Ya1v (h:p:=by  simp only [Bg] at hy; omega):p:=h
def Ya1w (h:p:=by subst e;rw [if_pos rfl] at ae;rw [hp] at hq;simp only [Bg] at ae hq;subst ae; subst hq; exact he):p:=h
def Ya1x (h:p:=by
 funext k;show at_ 0 (put t.basis i c) k=if k=i then c else at_ 0 t.basis k
 exact Lz (by rw [h.basis]; exact hi)):p:=h
def Ya1y (h:p:=by  rw [if_pos rfl,if_pos rfl]; grind):p:=h
def Ya1z (h:p:=by obtain ⟨-,o',gc,-⟩:=Ga hi;have:=(Ck.1 gc).1;rw [Array.size_push] at this; omega):p:=h
def Ya20 (h:p:=by refine ⟨[],?_,by simp [VRs],by simp⟩;cases a <;> simp [lD,loadCells,loadCellsFrom]):p:=h
def Ya21 (h:p:=by simp only [Cd,Cf] at ho; obtain ⟨_,_,_,rfl⟩:=ho; exact ⟨_,rfl⟩):p:=h
def Ya22 (h:p:=by simpa using this):p:=h
def Ya23 (h:p:=by
 have cl:¬ fn.body=none:=Za2r
 simp [execOp,e,resolve,hx,rk,Deferred.ofValue,invoke,callFunc,g1,b7,cl]):p:=h
def Ya24 (h:p:=by
 rcases Bx ae with rfl|ae
 ·exact hl
 ·exact h.rowW r ae):p:=h
def Ya25 (h:p:=by refine ⟨e.1,e.2.trans ?_⟩;rw [Fb,Fb];exact Mo (Ho aA) (Ho aA) (Ho h3)):p:=h
def Ya26 (h:p:=by
 have:t.rows.length<=k:=List.drop_eq_nil_iff.1 hl;rw [h.rows] at this;have e:k=m:=aA
 subst e;exact hb):p:=h
def Ya27 (h:p:=by
 rw [Fw] at hc;rcases Cu.1 hc with hc|hc
 ·exact g1 c hc
 ·exact g2 c hc):p:=h
def Ya28 (h:p:=by exact IH (y,x % y) _ aF ⟨rfl,hgn,hy,hym,aB,aB,aB⟩):p:=h
def Ya29 (h:p:=by simp only [VR] at hx ⊢;obtain ⟨vs,e,hr⟩:=hx;exact ⟨vs,e,VRs.mono0 h caps vs.toList hr⟩):p:=h
def Ya2a (h:p:=by rw [k1.keep b (Ck.1 hb1).1 fun o hm=>bz.sr.own b o hm (fc o)]; exact hb1):p:=h
def Ya2b (h:p:=by simp only [VR] at hx ⊢;obtain ⟨vs,e,hr⟩:=hx;exact ⟨vs,e,VRs.mono h caps vs.toList hr⟩):p:=h
def Ya2c (h:p:=by rw [Ij fu,iD] at hj;simp [Mx,h3]; simpa using hj):p:=h
def Ya2d (h:p:=by
 cases d8:o.dst with
 | none=>simp only [putT]
 | some d =>
  simp only [putT];rw [Da (fun x=>hne dJ)]):p:=h
def Ya2e (h:p:=by
 obtain ⟨ex,s2⟩:=x;cases ex with
 | normal=>rfl
 | exit id=>exact absurd h (hne id s2)
 | ret=>rfl):p:=h
def Ya2f (h:p:=by simp only [VR] at hx ⊢;obtain ⟨vs,e,hr⟩:=hx;exact ⟨vs,e,VRs.mono0 h cs vs.toList hr⟩):p:=h
def Ya2g (h:p:=by rw [List.take_append,Ff aA,wo,Oj,lG,Fj]):p:=h
def Ya2h (h:p:=by simp only [VR] at hx ⊢;obtain ⟨vs,e,hr⟩:=hx;exact ⟨vs,e,VRs.mono h cs vs.toList hr⟩):p:=h
def Ya2i (h:p:=by exact ⟨Hr (v:=w) (w':=C'.w) eY (hn w C' h2 h3 (h4.trans hr.S) h5 (h6.trans hr.n) h7),rfl⟩):p:=h
def Ya2j (h:p:=by
 obtain ⟨ex,s2⟩:=r;cases ex with
 | normal=>exact absurd he (hne s2)
 | exit id=>rfl
 | ret=>rfl):p:=h
def Ya2k (h:p:=by
 cases fx with
 | func g=>simp only [yh g rfl,hxf,Bool.or_true]
 | _=>simp only [ro,Bool.or_true]):p:=h
def Ya2l (h:p:=by
 split at he
 ·rename_i r' s1 ho;rw [Mf (fun z hz=>Dt ih aA c _ z hz) ho];exact he
 ·simp at he):p:=h
def Ya2m (h:p:=by show Simp.Tab.mk _ _ _=Simp.Tab.mk _ _ _;exact congr (congr (congrArg Simp.Tab.mk eT) eC) eB):p:=h
def Ya2n (h:p:=by
 cases fx with
 | func g=>simp only [yh g rfl,wv,jU]
 | _=>simp only [ro,jU]):p:=h
def Ya2o (h:p:=by unfold mkA;rw [hz,hs,hb,intN_cast];simp only [mkB];rw [if_pos ⟨Ce _,h,xt,rfl⟩]):p:=h
def Ya2p (h:p:=by refine ⟨e.1,e.2.trans ?_⟩;rw [Fb,Fb];exact Kj (Ho aA) (Ho aA)):p:=h
def Ya2q (h:p:=by exact IH (n - 1) _ aF ⟨rfl,aE,N7 hz hx fh,dB⟩):p:=h
def Ya2r (h:p:=by  exact h.rowE j q r hq ae):p:=h
def Ya2s (h:p:=by rw [<- Ph];exact Qp (w:=intA b0) (by rw [Af] at hb0 ⊢; rw [Fe,hb0]; rfl)):p:=h
def Ya2t (h:p:=by simp only [Bg,Cf] at h; obtain ⟨-,rfl⟩:=h; exact Lw.refl _):p:=h
def Ya2u (h:p:=by rw [F6] at he;obtain ⟨e',mf,rfl⟩:=he;rw [Fg]; exact g2 e' mf):p:=h
def Ya2v (h:p:=by rename_i h'; exact absurd h' (hb _)):p:=h
def Ya2w (h:p:=by simp only [Cd,Cf] at bu;obtain ⟨cs,-,-,rfl⟩:=bu;simp):p:=h
def Ya2x (h:p:=by exact IH (i+1,j,o++[x],Ay tk' c 2) _ aF ⟨rfl,aE,hj,aC,am,Za0z,aG,aG,aG,aG,aG,aG,aG⟩):p:=h
def Ya2y (h:p:=by exact IH (i,j+1,o++[y],Ay tk' c 2) _ aF ⟨rfl,hi,aE,aC,am,Za10,aG,aG,aG,aG,aG,aG,aG⟩):p:=h
def Ya2z (h:p:=by refine Qw (by rw [<- lp,Zi]) gy fun e he=>?_;have:=fk e he;rw [H0 aA]; exact ar e this):p:=h
def Ya30 (h:p:=by
 refine ⟨fun h1=>?_,fun h1=>?_⟩
 ·simp [Ei,h0,hq,hb,ar,h1]
 ·simp [Ei,h0,hq,hb,ar,h1]):p:=h
def Ya31 (h:p:=by unfold depsOf; rw [ho];exact F6.2 ⟨e,List.mem_filter.2 ⟨gJ,hb⟩,rfl⟩):p:=h
def Ya32 (h:p:=by have:=D4.1 (C5.1 h); omega):p:=h
def Ya33 (h:p:=by
 have:n.natAbs<10000 ^ 5:=aA
 exact F7 this (Nat.pow_le_pow_right aA aA)):p:=h
def Ya34 (h:p:=by simp only [A8,D3,h1,h2,h3,h4]; rfl):p:=h
def Ya35 (h:p:=by simp only [Bg,Cf] at h; obtain ⟨_,rfl⟩:=h; exact this):p:=h
def Ya36 (h:p:=by simp only [VR] at hx ⊢;obtain ⟨u,e,hr⟩:=hx;exact ⟨u,e,VR.mono0 h v u hr⟩):p:=h
def Ya37 (h:p:=by simp only [VR] at hx ⊢;obtain ⟨u,e,hr⟩:=hx;exact ⟨u,e,VR.mono h v u hr⟩):p:=h
def Ya38 (h:p:=by simp only [Cd] at h;obtain ⟨v,h,hh⟩:=h;exact quiet v h hh):p:=h
def Ya39 (h:p:=by
 have hxs:x<listed.size:=aA
 simp [Sp,hxs] at h0 h1;rw [h0] at h1; cases h1):p:=h
def Ya3a (h:p:=by rw [he,Fp];exact ⟨fun h=>by simp [A8,h],fun h=>by simp [A8,h]⟩):p:=h
def Ya3b (h:p:=by
 split at h
 ·rename_i h'; simp only [Bg] at h; rw [h',h]
 ·cases h):p:=h
def Ya3c (h:p:=by rw [Nn,h.len,iK,Ki,this];exact hv):p:=h
def Ya3d (h:p:=by have:=dz.2.2 aA;have h2:=(hw c aA this.1).2 hlt;rw [this.2] at h2; simp at h2):p:=h
def Ya3e (h:p:=by show RK P fn (.loop c) { st with S:=cutS (Ad0 c) m st.S } k=_;rw [hk.h]; rfl):p:=h
def Ya3f (h:p:=by  exact Ce _):p:=h
def Ya3g (h:p:=by have:=Ic.2 cg;simp; omega):p:=h
def Ya3h (h:p:=by have e1:n.tdiv 10000=n / 10000:=Cz aA;rw [e1,Aa aD]):p:=h
def Ya3i (h:p:=by unfold inB;exact ⟨fun h=>dS,fun h=>dS⟩):p:=h
def Ya3j (h:p:=by simp only [A8,D3,h1,h2,h3]; rfl):p:=h
def Ya3k (h:p:=by rename_i x hx;rw [hx] at h2; simp only [VR] at h2; subst h2;simpa using h):p:=h
def Ya3l (h:p:=by simp only [Cf] at e;exact ⟨h0,o',gc,by rw [e.1]; exact hd⟩):p:=h
def Ya3m (h:p:=by simp only [Cx.hid];rw [hle.av];exact ⟨fun h=>h.resolve_right hx,.inl⟩):p:=h
def Ya3n (h:p:=by show entAt SF _ _=_;rw [Ac (k8 _ aA aA (fun _=>⟨aA,aA⟩))]; exact ak.Z):p:=h
def Ya3o (h:p:=by show nth SF j=_;rw [k8 j aA aA (fun _=>⟨aA,aA⟩)]; exact ak.fr j h1 h2):p:=h
def Ya3p (h:p:=by simp [Instr.fieldAt,Bt hu,hfk,So,fieldPlace,Gk h2,h4,D7,h1]):p:=h
def Ya3q (h:p:=by have:l.length≠0:=fun h'=>h (C5.1 h');simp; omega):p:=h
def Ya3r (h:p:=by have:=(It.1 hd).2; omega):p:=h
def Ya3s (h:p:=by
 by_cases e:i'=k
 ·subst e; exact ⟨aL,fun h'=>aL⟩
 ·exact b5 i' aA ez):p:=h
def Ya3t (h:p:=by have:=Bh aa;exact List.length_eq_one_iff.1 (by simpa using this.symm)):p:=h
def Ya3u (h:p:=by rw [pn] at this; simp at this):p:=h
def Ya3v (h:p:=by split <;> omega):p:=h
def Ya3w (h:p:=by
 by_cases e:i'=k
 ·subst e; exact ⟨aL,fun _=>aA⟩
 ·exact b5 i' aA ez):p:=h
def Ya3x (h:p:=by simp [method,typeInfo,h1,h2,h3,h4,follow,receiverAt,Bt h5,Place.get]):p:=h
def Ya3y (h:p:=by exact ⟨hr.defers,v,h1,v,C',rfl,rfl,hle,hr.sr,hr.S,hr.tk,hr.n,h2⟩):p:=h
def Ya3z (h:p:=by rw [Af] at h;exact (It.1 (Ip h)).2):p:=h
def Ya40 (h:p:=by rw [if_pos aX] at h; exact absurd h h0):p:=h
def Ya41 (h:p:=by
 cases u with
 | nil=>simp at jv; omega
 | cons x u=>exact ⟨x,u,rfl⟩):p:=h
def Ya42 (h:p:=by
 cases U with
 | nil=>simp at dq; omega
 | cons x u=>exact ⟨x,u,rfl⟩):p:=h
def Ya43 (h:p:=by rw [Fp,Fm (by simp)]; simp [val]):p:=h
def Ya44 (h:p:=by rwa [show o+(i+1)*sz=o+sz+i*sz by rw [V9]; omega] at this):p:=h
def Ya45 (h:p:=by simp only [A8,D3,h1,h2]; rfl):p:=h
def Ya46 (h:p:=by obtain ⟨e,h1,-⟩:=Ds h;exact Bl h1):p:=h
def Ya47 (h:p:=by obtain ⟨b',o',h1,h2,-⟩:=hcells j x hx;exact ⟨b',o',h1,h2⟩):p:=h
def Ya48 (h:p:=by rw [h0,if_pos rfl] at hE;unfold sysE;rw [if_neg h64,hE,if_pos h0]):p:=h
def Ya49 (h:p:=by  simp only; show _ / ((1:Int):Rat)=_; rw [kS]; grind):p:=h
def Ya4a (h:p:=by rw [D0 e];exact ⟨.inr,fun h=>h.resolve_left fun x=>e x.symm⟩):p:=h
def Ya4b (h:p:=by  rw [ho] at this;simp only at this;rw [d6] at this; simp at this):p:=h
def Ya4c (h:p:=by  exact ⟨rfl,rfl⟩):p:=h
def Ya4d (h:p:=by
 rcases B5 hu with ⟨-,e⟩|⟨e,-⟩
 ·omega
 ·exact absurd rfl e):p:=h
def Ya4e (h:p:=by have h5:=b5 i' aA ez;exact ⟨aL,fun h'=>by have:=h5.1; grind⟩):p:=h
def Ya4f (h:p:=by
 split at he
 ·rename_i r' s1 ho;rw [out ho];exact he
 ·simp at he):p:=h
def Ya4g (h:p:=by exact sum_congr fun j _=>aL):p:=h
def Ya4h (h:p:=by exact lH _ this):p:=h
def Ya4i (h:p:=by exact IH (P++[r0'],U,some P.length) _ aF ⟨rfl,ot,fm,hb2,aU⟩):p:=h
def Ya4j (h:p:=by
 refine ⟨0,?_,Ce _,fun _=>?_⟩
 ·simp only [Cx.tok,Af]; simp
 ·exact Ya0q):p:=h
def Ya4k (h:p:=by
 induction n using Ss with
 | _ n ih =>
  intro x st hn hI;exact Ya15):p:=h
def Ya4l (h:p:=by
 by_cases e:i=k
 ·subst e;exact Ya1y
 ·rw [if_neg e,if_neg (I8 e)]; grind):p:=h
def Ya4m (h:p:=by
 cases de:o.dst with
 | none=>rw [de] at hx; exact hx
 | some d0 =>
  exact Ya08):p:=h
def Ya4n (h:p:=by
 by_cases e:j=i
 ·subst e; rw [hx] at hy;exact Ya1v
 ·exact this.2.1 aA):p:=h
end Go.Proofs.YthelkgdmgihhiaaGreat
