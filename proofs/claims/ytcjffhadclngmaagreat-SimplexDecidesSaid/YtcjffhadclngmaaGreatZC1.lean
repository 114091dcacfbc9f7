/- Part 1. -/
import Derived.KernelRfl
namespace Go.Proofs.YtcjffhadclngmaaGreat
variable {p:Prop}
set_option linter.defProp false
def aB (h:p:=by first|rfl|simp only [getT,F4,Ct,Ei,digC,digA]):p:=h
def aA (h:p:=by omega):p:=h
def aC (h:p:=by unfold i64; omega):p:=h
def aE (h:p:=by first|omega|(dsimp only; omega)):p:=h
def aJ (h:p:=by first|rfl|simp only [getT,F4,Ct,Ei,strC,Aq,and_self]):p:=h
def aG (h:p:=by first|rfl|simp only [getT,F4]):p:=h
def aF (h:p:=by first|omega|(simp only; omega)):p:=h
def aP (h:p:=by and_intros <;> first|rfl|simp only [getT,F4]):p:=h
def aD (h:p:=by simp; omega):p:=h
def aH (h:p:=by first|rfl|assumption):p:=h
def bJ (h:p:=by and_intros <;> first|rfl|simp only [getT,F4,Ct,Ei]):p:=h
def bU (h:p:=by first|rfl|simp only [getT,F4,Ct,Ei,and_self]):p:=h
def aI (h:p:=by kernel_rfl):p:=h
def aM (h:p:=by simpa using h):p:=h
def aQ (h:p:=by simpa using hlt):p:=h
def aT (h:p:=by simp only [VRs] at h):p:=h
def bA (h:p:=by simp only [tys,Ou]):p:=h
def cB (h:p:=by rw [k1,k2,k3,decide_eq_false b4]; exact F6):p:=h
def aN (h:p:=by simp at h):p:=h
def aU (h:p:=by simpa using h1):p:=h
def aV (h:p:=by decide +kernel):p:=h
def aW (h:p:=by simpa using h0):p:=h
def bE (h:p:=by simp only [execOp,e]):p:=h
def eM (h:p:=by rw [<- i5,jM x y]; exact (Nat.gcd_rec y x).symm ▸ jM y (x % y)):p:=h
def eP (h:p:=by simp only [evC,A8,Cg] at h; obtain ⟨_,rfl⟩:=h; exact hI):p:=h
def aR (h:p:=by cases h):p:=h
def cC (h:p:=by rw [k1,k2,k3,decide_eq_true b4]; rfl):p:=h
def bF (h:p:=by simp only [PR] at hx):p:=h
def Zax (h:p:=by show m<=(st.S++_).length; rw [Cm]; exact Fs hI.le (Ia _ _)):p:=h
def aO (h:p:=by decide):p:=h
def aX (h:p:=by simpa using hneg):p:=h
def bG (h:p:=by simp only [PR] at h):p:=h
def aL (h:p:=by grind):p:=h
def dC (h:p:=by simp only [E3,okZ,hla,hlb]; simp [di]; omega):p:=h
def Za03 (h:p:=by have:=t.b; simp only [Ci,Ig] at this; exact this.1):p:=h
def Za04 (h:p:=by and_intros <;> first|rfl|simp only [getT,J8,F4,Ct,Ei]):p:=h
def dS (h:p:=by simp only [nth,A8] at h; subst h; rfl):p:=h
def aY (h:p:=by simpa using b1):p:=h
def aZ (h:p:=by simpa using b2):p:=h
def Za08 (h:p:=by show (P++[r0]).length+U.length=t.rows.length; simp only [Cm,Ch,Co] at d7 ⊢; omega):p:=h
def Za09 (h:p:=by rw [<- hg,jM x y]; exact (Nat.gcd_rec y x).symm ▸ jM y (x % y)):p:=h
def cU (h:p:=by rw [<- iH]; simp [hu]):p:=h
def bL (h:p:=by simp only [PRs] at h):p:=h
def bH (h:p:=by simpa using hj):p:=h
def cD (h:p:=by rw [Iu]; omega):p:=h
def Za0e (h:p:=by show (st.S++_).take m=S0; rw [Oo hI.le]; exact hI.S):p:=h
def Za0g (h:p:=by show (p++[y.1]).length+v.length=W; simp only [Cm,Ch,Co] at jc ⊢; omega):p:=h
def bC (h:p:=by simpa using b3):p:=h
def bD (h:p:=by simpa using b4):p:=h
def eQ (h:p:=by rw [jM,<- Nat.gcd_rec,jM]; exact i5):p:=h
def Za0k (h:p:=by rw [Fa,O2,<- Ev (x:=r0),Kt (by simp),if_neg (fun h=>qq h.symm)]; exact bl):p:=h
def dD (h:p:=by rw [<- iH]; simp [ht]):p:=h
def eR (h:p:=by simp [execOp,e,resolve,hb,ha,invoke,builtin,tu,h1]):p:=h
def dE (h:p:=by rw [List.length_set]; exact h.len):p:=h
def bK (h:p:=by simp [nth] at h):p:=h
def cV (h:p:=by have:=Dz (Hi f4 r h); omega):p:=h
def Za0s (h:p:=by and_intros <;> first|rfl|simp only [getT,F4,Ct,Ei,digC,digA]):p:=h
def eU (h:p:=by rw [Ag] at hx; exact I8 hx):p:=h
def bP (h:p:=by simp only; omega):p:=h
def Za0w (h:p:=by rw [ny,y8]; simp only [Fa,Cn,Cq,Fo]):p:=h
def Za0x (h:p:=by have:=t.b; simp only [Ci,Ig] at this; exact this.2):p:=h
def Za0z (h:p:=by simpa only [Fa,Cn,Cq,Fo] using fi):p:=h
def dT (h:p:=by unfold Dc; rw [ho]; simpa using x):p:=h
def bQ (h:p:=by rw [Ai]; omega):p:=h
def bR (h:p:=by simp only [VR]):p:=h
def Za14 (h:p:=by unfold i64; rcases hsb with e|e <;> rw [e] <;> omega):p:=h
def Za15 (h:p:=by rw [List.flatten_append]; exact Js (PRs.stays aj _ _ ja) (PRs.stays aj _ _ bm)):p:=h
def cE (h:p:=by simp [Op.operands]):p:=h
def eV (h:p:=by unfold topV; rw [Fg,B5]; rfl):p:=h
def cF (h:p:=by rw [k1,k2,k3]; rfl):p:=h
def Za19 (h:p:=by unfold i64; rcases jd with h|h <;> rw [h] <;> omega):p:=h
def dG (h:p:=by have:=aq.iq; omega):p:=h
def bS (h:p:=by simpa using la):p:=h
def Za1e (h:p:=by rw [<- List.map_take,<- List.map_drop]; exact Hw _):p:=h
def cG (h:p:=by simp at hi; omega):p:=h
def bV (h:p:=by simpa using hm):p:=h
def dU (h:p:=by simp only [Ei,VRs]):p:=h
def Za1i (h:p:=by intro m' em; simp only [A8] at em; subst em; exact hc):p:=h
def bW (h:p:=by simpa using dj):p:=h
def bX (h:p:=by simpa using cq):p:=h
def Za1l (h:p:=by unfold J8; exact Gq (sz:=4) (f:=fun q=>ceW (qF.rat q)) (fun _=>rfl) l):p:=h
def eW (h:p:=by rw [Iu,Ai,Ai]; omega):p:=h
def cH (h:p:=by rw [k1,k2]; rfl):p:=h
def bZ (h:p:=by simp only [VRs]):p:=h
def Za1p (h:p:=by simp only [execOp,e,Fw,g1,Fh,I9]):p:=h
def Za1q (h:p:=by simp only [Cm,Ch] at kt ⊢; exact kt):p:=h
def bM (h:p:=by simp [hx]):p:=h
def bN (h:p:=by simp [hq]):p:=h
def Za1t (h:p:=by rw [hR]; unfold ansC; rw [jE]; rfl):p:=h
def cA (h:p:=by simpa using h2):p:=h
def cI (h:p:=by simpa using hl):p:=h
def Za1z (h:p:=by rw [hsz.1,hsz.2.2.1,hsz.2.2.2,lg.1,lg.2.2.1,lg.2.2.2]; omega):p:=h
def dH (h:p:=by rw [hsz]; exact bo):p:=h
def cJ (h:p:=by simp only [evC]):p:=h
def bO (h:p:=by simp [h]):p:=h
def bT (h:p:=by simp [wrS]):p:=h
def dV (h:p:=by rw [h.rows]; exact hi):p:=h
def cK (h:p:=by simpa using hz):p:=h
def cM (h:p:=by simpa using mc):p:=h
def cN (h:p:=by simpa using gn):p:=h
def cO (h:p:=by rw [hNn,hD,hg]):p:=h
def cP (h:p:=by rw [k1]; rfl):p:=h
def cQ (h:p:=by simpa using rk):p:=h
def cR (h:p:=by simp [wrT,ao]):p:=h
def dW (h:p:=by simp only [sum]; grind):p:=h
def Za2i (h:p:=by simp only [Cx.tok,if_true]; exact hp):p:=h
def cW (h:p:=by simpa using hn):p:=h
def eX (h:p:=by rw [hψ]; simp only; omega):p:=h
def Za2m (h:p:=by intro hh; rw [hh] at g3; simp at g3):p:=h
def eY (h:p:=by rw [hwr] at hw; simp at hw):p:=h
def dI (h:p:=by simp [smB]; omega):p:=h
def Za2r (h:p:=by rw [wo,hR,hfg]; unfold ansC; rw [jE]; rfl):p:=h
def eZ (h:p:=by simpa only [evC] using he):p:=h
def Za2t (h:p:=by simp only [h1,h2]; simp):p:=h
def Za2u (h:p:=by rw [pu]; exact Dj.times _ _ ou ow):p:=h
def Za2v (h:p:=by rw [f9]; exact Dj.minus _ _ oz oy):p:=h
def cX (h:p:=by simpa using bg):p:=h
def Za2x (h:p:=by rw [List.length_set,List.length_set]; exact h.len):p:=h
def fA (h:p:=by simp only [h1,h2]; rfl):p:=h
def dX (h:p:=by have:=R.LN; omega):p:=h
def Za31 (h:p:=by rw [Ii]; exact Iv e6 e4):p:=h
def Za32 (h:p:=by have h:nn.natAbs<=1000000000000:=hsm.con; omega):p:=h
def Za33 (h:p:=by rw [Iu,Ai]; omega):p:=h
def Za34 (h:p:=by rw [e] at o5; simp at o5; omega):p:=h
def Za35 (h:p:=by unfold Dc at hd; rw [ho] at hd; simpa using hd):p:=h
def fB (h:p:=by rw [ao] at hb; cases hb):p:=h
def dJ (h:p:=by simpa using hb):p:=h
def dY (h:p:=by simp [execOp,e,hb]):p:=h
def dK (h:p:=by simp [evC] at h):p:=h
def dL (h:p:=by rw [Dx,hx]; rfl):p:=h
def dM (h:p:=by simpa using hjm):p:=h
def Za3c (h:p:=by have h:=l6.T.costE; rw [a8.2.2] at h; exact h):p:=h
def Za3f (h:p:=by rw [Ai,l6.len,ak.len]; exact Ce _):p:=h
def fC (h:p:=by unfold maxLen; omega):p:=h
def dZ (h:p:=by rw [hx.1]; simp):p:=h
def fD (h:p:=by simp only [VRs] at hx):p:=h
def fE (h:p:=by simp [Cx.alone] at hi):p:=h
def cY (h:p:=by assumption):p:=h
def Za3l (h:p:=by intro f args S tk n r he; simp [evF] at he):p:=h
def dN (h:p:=by rw [Dx,h]; rfl):p:=h
def Za3n (h:p:=by simp [PRs,PR,jF]):p:=h
def cZ (h:p:=by simp [roomy]):p:=h
def Za3p (h:p:=by rw [me]; omega):p:=h
def Za3q (h:p:=by rw [cu j h2.1,bm j h2.1]; exact am j h1 h2):p:=h
def fF (h:p:=by rw [ht.cost]; omega):p:=h
def dO (h:p:=by simpa using o6):p:=h
def Za3y (h:p:=by rw [k1.av]; exact li x o hx):p:=h
def Za3z (h:p:=by rw [K9]; grind):p:=h
def Za40 (h:p:=by rw [Fw,Ec (by simp)]; exact h1):p:=h
def eD (h:p:=by simpa using hx):p:=h
def fG (h:p:=by simpa [Ai] using hi):p:=h
def Za43 (h:p:=by simp only [VRs]; exact ⟨h1,h2,trivial⟩):p:=h
def Za44 (h:p:=by rw [HI.out.rest]; exact Si _ hb0):p:=h
def Za46 (h:p:=by simp only [Cq]; exact Bw hi):p:=h
def Za47 (h:p:=by show entAt _ _ _=_; exact Am (by simp)):p:=h
def Za48 (h:p:=by simp [Cx.more,hr.S,hr.n]):p:=h
def Za49 (h:p:=by unfold topV; rw [Ik]; rfl):p:=h
def dP (h:p:=by rw [d7]; simp):p:=h
def Za4d (h:p:=by show t1.rows.length+1<=1000000; omega):p:=h
def Za4e (h:p:=by rw [hsz.1,hsz.2.1,lg.1,lg.2.1]; omega):p:=h
def Za4f (h:p:=by rw [Iu,Ai]; simp; omega):p:=h
def dA (h:p:=by rw [ip,x]):p:=h
def Za4h (h:p:=by rw [lD hbel (G5 hv)]; exact hv):p:=h
def Za4i (h:p:=by simp only [oneOf,VR]; exact ⟨_,rfl,h2⟩):p:=h
def fH (h:p:=by simp [conf,ey,ek]):p:=h
def fI (h:p:=by simpa using hs.h2):p:=h
def fJ (h:p:=by simpa using hq.symm):p:=h
def Za4m (h:p:=by unfold J8; rw [Fj]; omega):p:=h
def fK (h:p:=by rw [hw]; exact hc):p:=h
def eE (h:p:=by simpa using hpq):p:=h
def Za4p (h:p:=by have:=Gh.1 re.symm; omega):p:=h
def Za4q (h:p:=by rw [h0] at bh; simp at bh):p:=h
def Za4r (h:p:=by rw [ht.basis]; exact c9):p:=h
def Za4s (h:p:=by rw [setRow_other _ _ _ _ h]; exact hd):p:=h
def Za4t (h:p:=by simp [Cx.tok] at hi; simp [J4]; omega):p:=h
def Za4u (h:p:=by simp [Op.operands,Call.operands,ao]):p:=h
def Za4v (h:p:=by have h:=fm; rw [a8.2.2] at h; exact h):p:=h
def dB (h:p:=by simp [h1]):p:=h
def eG (h:p:=by simpa using hu):p:=h
def Za4y (h:p:=by rw [Array.toList_map]; exact M9 hρ _):p:=h
def fL (h:p:=by simpa using hs.h):p:=h
def fM (h:p:=by simp at h ⊢; omega):p:=h
def fN (h:p:=by simp at h; omega):p:=h
def Za52 (h:p:=by simp only at dh; omega):p:=h
def Za53 (h:p:=by rw [<- a8]; exact h1.1):p:=h
def Za55 (h:p:=by rw [ht.rows]; exact c9):p:=h
def eH (h:p:=by simpa using h3):p:=h
def eI (h:p:=by simpa using g2):p:=h
def Za58 (h:p:=by unfold Dc; rw [ho]; simpa using e):p:=h
def Za59 (h:p:=by rw [I1]; omega):p:=h
def Za5a (h:p:=by rw [h.cost]; exact hc):p:=h
def Za5b (h:p:=by rw [h.rows]; exact c9):p:=h
def fO (h:p:=by simp [Lq,e] at hm):p:=h
def fP (h:p:=by rw [hx.2]; simp):p:=h
def Za5e (h:p:=by rw [k1.av]; exact fy o):p:=h
def Za5f (h:p:=by simpa [roomy] using h1):p:=h
def Za5g (h:p:=by rw [ht.basis]; omega):p:=h
def fQ (h:p:=by simp [over] at h):p:=h
def fR (h:p:=by simp [Tu]; omega):p:=h
def fT (h:p:=by rw [Aj]; omega):p:=h
def fU (h:p:=by rw [bp]; omega):p:=h
def fV (h:p:=by rw [h.cost,dl]):p:=h
def Za5m (h:p:=by simp [Cx.more,hr.n]):p:=h
def Za5n (h:p:=by cases t <;> simp [br]):p:=h
def Za5o (h:p:=by have:=gA.pos; omega):p:=h
def fW (h:p:=by simpa using ho):p:=h
def Za5q (h:p:=by rw [Aa pf]; exact si):p:=h
def fX (h:p:=by simpa using b7):p:=h
def eJ (h:p:=by simp [h.len]):p:=h
def fY (h:p:=by simp [C0] at hi):p:=h
def dR (h:p:=by simp at hv):p:=h
def fZ (h:p:=by simpa using hjv):p:=h
def gC (h:p:=by simpa using hqW):p:=h
def gD (h:p:=by simpa using hbr):p:=h
def Za5y (h:p:=by have:=Gh.1 e; omega):p:=h
def gE (h:p:=by simpa using he):p:=h
def Za60 (h:p:=by rw [e1]; exact hrun):p:=h
def Za61 (h:p:=by have:=dc.1; omega):p:=h
def Za62 (h:p:=by have:=g2.1; omega):p:=h
def Za63 (h:p:=by simp [Op.bytesLess]):p:=h
def Za64 (h:p:=by rw [Aj]; exact h.nb):p:=h
def Za65 (h:p:=by rw [Ag]; exact hi):p:=h
def Za66 (h:p:=by rw [u0,ro]; omega):p:=h
def gF (h:p:=by simp [wrS,ao]):p:=h
def gG (h:p:=by simpa using j8):p:=h
def gH (h:p:=by simpa using ha):p:=h
def gI (h:p:=by simpa using g1):p:=h
def gJ (h:p:=by simpa using ca):p:=h
def gK (h:p:=by simpa using cb):p:=h
def gL (h:p:=by simpa using cw):p:=h
def gN (h:p:=by simpa using mg):p:=h
def gQ (h:p:=by simpa using sy):p:=h
def gR (h:p:=by simpa using kw):p:=h
def gT (h:p:=by simpa using xv):p:=h
def Za6i (h:p:=by rw [hψ]; exact h1):p:=h
def eK (h:p:=by rw [h]; rfl):p:=h
def gU (h:p:=by rw [hy]; rfl):p:=h
def gX (h:p:=by rw [u9]; simp):p:=h
def gY (h:p:=by simp [i64]):p:=h
def gZ (h:p:=by rw [uv,hw]):p:=h
def aK (h:p:=by rw [Ac aC]; rfl):p:=h
def aS (h:p:=by rw [Ac aC]; omega):p:=h
def bY (h:p:=by rw [Ic aA]; rfl):p:=h
def Za6r (h:p:=by simp only [A8,Cg] at h; obtain ⟨rfl,rfl⟩:=h; exact ⟨rfl,Za3p,oy⟩):p:=h
def bI (h:p:=by rw [Ac aC]; simp):p:=h
def Za6t (h:p:=by simp only [A8,Cg] at h; obtain ⟨rfl,rfl⟩:=h; exact ⟨rfl,Za3p,ol⟩):p:=h
def iA (h:p:=by rw [Aa (eh Sf.length (zr 0 aA))]; exact Az):p:=h
def iB (h:p:=by rw [Aa (eh _ (ft _ aA aA))]; exact Ad hEf):p:=h
def Za6w (h:p:=by rw [Simp.red_basis h.fit k aA k aA,if_neg (lA k)]):p:=h
def Za6x (h:p:=by by_cases e:j=n - 1; (· rw [e,hx,hy,j8]); exact sc j aE):p:=h
def Za6y (h:p:=by rw [key j aA]; exact h.fr j h1 h2):p:=h
def Za6z (h:p:=by rw [Ab aE,cu j h2.1,bm j h2.1]; exact am j h1 h2):p:=h
def Za70 (h:p:=by rw [bp]; first|rfl|exact A2 dG):p:=h
def Za71 (h:p:=by rw [Aa (key _ aA)]; exact h.E15):p:=h
def Za72 (h:p:=by simp only [first]; rw [if_neg aA,if_neg aA]):p:=h
def Za73 (h:p:=by rw [Aa (key _ aA)]; exact h.Z):p:=h
def Za74 (h:p:=by rw [x2]; exact hS.piv c9 hLN hB aA hne):p:=h
def Za75 (h:p:=by rw [if_neg aA,if_neg aA]):p:=h
def Za76 (h:p:=by rw [Aa (r6 _ (ft _ aA aA))]; exact xy):p:=h
def Za77 (h:p:=by rw [h'] at this; exact absurd this aL):p:=h
def iC (h:p:=by rw [hn,if_neg Za2t]):p:=h
def Za79 (h:p:=by rw [Ah aA]; exact fu):p:=h
def Ya0 (h:p:=by
 subst hM;refine Ai5 (P:=prog) (fun x st=>st.T.length=56/\(x.1.gcd x.2=g)/\(x.1<9223372036854775808)/\(x.2<9223372036854775808)/\getT st.T 0=.ref iq eq 0/\getT st.T 1=.int (M:Int)/\getT st.T 2=.int (D:Nat)/\getT st.T 6=.ref S.length k 0/\getT st.T 7=.int (x.1:Nat)/\getT st.T 8=.int (x.2:Nat)/\st.S=S++[⟨k,[.int 0,.int 0]⟩]/\st.tk=tk/\st.n=k+1) (fun x=>x.2) (fun x=>(frA r.1,QQ.flS S iq eq r.2,tk,k+1)) ((M:Int).natAbs,D) ?_ ?_;case refine_2=>exact ⟨rfl,cO,aA,aA,rfl,rfl,rfl,rfl,rfl,rfl,rfl,rfl,rfl⟩
 rintro ⟨x,y⟩ ⟨T,S',tk',n'⟩ ⟨hl,i5,hx,hy,e0,e1,e2,e6,e7,e8,eS,eT,eN⟩ IH;simp only at i5 hx hy e0 e1 e2 e6 e7 e8 eS eT eN;subst eS eT eN;obtain ⟨g,hg,hT⟩:=Au hl;rw [hg] at e0 e1 e2 e6 e7 e8;subst hT;clear hg hl;by_cases h0:y=0
 ·subst h0;have c1:(((0:Nat):Int) != 0)=false:=rfl;rw [Og] at i5;subst i5;by_cases h1:1<x
  ·rw [if_pos h1,if_pos h1] at ae;have c2:decide ((x:Int) > 1)=true:=aD
   have hz:¬ ((x:Int)=0):=aA
   have v1:=Bb (M:Int) x;have v2:=Bb (D:Int) x;have w5:Ca.wrap ((M:Int).tdiv (x:Int))=(M:Int).tdiv (x:Int):=Ac aC;have w6:Ca.wrap ((D:Int).tdiv (x:Int))=(D:Int).tdiv (x:Int):=Ac aC;by_cases b1:(M:Int).tdiv (x:Int)<=-2147483648
   ·have k1:decide ((M:Int).tdiv (x:Int)<=-2147483648)=true:=aY
    rw [if_pos cP] at ae;rw [ae];simp (maxSteps:=10^6)+contextual(disch:=try exact dqd)only[evs0,simprocAttr,Cb,Bg,Cc,results164,e0,e1,e2,e6,e7,e8,c1,c2,hz,w5,w6,df,hE,hP,hT,hA,k1,frA,Bf]
   have k1:decide ((M:Int).tdiv (x:Int)<=-2147483648)=false:=aY
   by_cases b2:(M:Int).tdiv (x:Int) >= 2147483648
   ·have k2:decide ((M:Int).tdiv (x:Int) >= 2147483648)=true:=aZ
    rw [if_pos cH] at ae;rw [ae];simp (maxSteps:=10^6)+contextual(disch:=try exact dqd)only[evs0,simprocAttr,Cb,Bg,Cc,results164,e0,e1,e2,e6,e7,e8,c1,c2,hz,w5,w6,df,hE,hP,hT,hA,k1,k2,frA,Bf]
   have k2:decide ((M:Int).tdiv (x:Int) >= 2147483648)=false:=aZ
   by_cases b3:(D:Int).tdiv (x:Int) >= 2147483648
   ·have k3:decide ((D:Int).tdiv (x:Int) >= 2147483648)=true:=bC
    rw [if_pos cF] at ae;rw [ae];simp (maxSteps:=10^6)+contextual(disch:=try exact dqd)only[evs0,simprocAttr,Cb,Bg,Cc,results164,e0,e1,e2,e6,e7,e8,c1,c2,hz,w5,w6,df,hE,hP,hT,hA,k1,k2,k3,frA,Bf]
   have k3:decide ((D:Int).tdiv (x:Int) >= 2147483648)=false:=bC
   by_cases b4:(D:Int).tdiv (x:Int)=0
   ·have k4:((D:Int).tdiv (x:Int) == 0)=true:=bD
    rw [if_pos cC] at ae;rw [ae];simp (maxSteps:=10^6)+contextual(disch:=try exact dqd)only[evs0,simprocAttr,Cb,Bg,Cc,results164,e0,e1,e2,e6,e7,e8,c1,c2,hz,w5,w6,df,hE,hP,hT,hA,k1,k2,k3,k4,frA,Bf]
   have k4:((D:Int).tdiv (x:Int) == 0)=false:=bD
   rw [if_neg cB] at ae;rw [ae];simp (maxSteps:=10^6)+contextual(disch:=try exact dqd)only[evs0,simprocAttr,Cb,Bg,Cc,results164,e0,e1,e2,e6,e7,e8,c1,c2,hz,w5,w6,df,k1,k2,k3,k4,frA,Gy]
  ·rw [if_neg h1,if_neg h1] at ae;have c2:decide ((x:Int) > 1)=false:=aD
   by_cases b1:(M:Int)<=-2147483648
   ·have k1:decide ((M:Int)<=-2147483648)=true:=aY
    rw [if_pos cP] at ae;rw [ae];simp (maxSteps:=10^6)+contextual(disch:=try exact dqd)only[evs0,simprocAttr,Cb,Bg,Cc,results164,e0,e1,e2,e6,e7,e8,c1,c2,df,hE,hP,hT,hA,k1,frA,Bf]
   have k1:decide ((M:Int)<=-2147483648)=false:=aY
   by_cases b2:(M:Int) >= 2147483648
   ·have k2:decide ((M:Int) >= 2147483648)=true:=aZ
    rw [if_pos cH] at ae;rw [ae];simp (maxSteps:=10^6)+contextual(disch:=try exact dqd)only[evs0,simprocAttr,Cb,Bg,Cc,results164,e0,e1,e2,e6,e7,e8,c1,c2,df,hE,hP,hT,hA,k1,k2,frA,Bf]
   have k2:decide ((M:Int) >= 2147483648)=false:=aZ
   by_cases b3:(D:Int) >= 2147483648
   ·have k3:decide ((D:Int) >= 2147483648)=true:=bC
    rw [if_pos cF] at ae;rw [ae];simp (maxSteps:=10^6)+contextual(disch:=try exact dqd)only[evs0,simprocAttr,Cb,Bg,Cc,results164,e0,e1,e2,e6,e7,e8,c1,c2,df,hE,hP,hT,hA,k1,k2,k3,frA,Bf]
   have k3:decide ((D:Int) >= 2147483648)=false:=bC
   by_cases b4:(D:Int)=0
   ·have k4:((D:Int) == 0)=true:=bD
    rw [if_pos cC] at ae;rw [ae];simp (maxSteps:=10^6)+contextual(disch:=try exact dqd)only[evs0,simprocAttr,Cb,Bg,Cc,results164,e0,e1,e2,e6,e7,e8,c1,c2,df,hE,hP,hT,hA,k1,k2,k3,k4,frA,Bf]
   have k4:((D:Int) == 0)=false:=bD
   rw [if_neg cB] at ae;rw [ae];simp (maxSteps:=10^6)+contextual(disch:=try exact dqd)only[evs0,simprocAttr,Cb,Bg,Cc,results164,e0,e1,e2,e6,e7,e8,c1,c2,df,k1,k2,k3,k4,frA,Gy]
 ·have c1:((y:Int) != 0)=true:=aW
  have hz:¬ ((y:Int)=0):=aA
  have hm:(x:Int).tmod (y:Int)=((x % y:Nat):Int):=bY
  simp (maxSteps:=10^6)+contextual(disch:=try exact dqd)only[evs0,simprocAttr,Cb,Bg,Cc,results164,e0,e1,e2,e6,e7,e8,c1,hz,hm];have hlt:=Si x (by omega:0<y);exact IH (y,x % y) _ aF ⟨rfl,eM,hy,aE,aP⟩):p:=h
def Ya1 (h:p:=by
 by_cases b3:(D:Int).tdiv (x:Int) >= 2147483648
 ·have k3:decide ((D:Int).tdiv (x:Int) >= 2147483648)=true:=bC
  rw [if_pos cF] at ae;rw [ae];simp (maxSteps:=10^6)+contextual(disch:=try exact dqd)only[evs0,simprocAttr,Cb,Bg,Cc,results164,e0,e1,e2,e6,e7,e8,c1,c2,hz,w5,w6,df,hE,hP,hT,hA,k1,k2,k3,frA,Bf]
 have k3:decide ((D:Int).tdiv (x:Int) >= 2147483648)=false:=bC
 by_cases b4:(D:Int).tdiv (x:Int)=0
 ·have k4:((D:Int).tdiv (x:Int) == 0)=true:=bD
  rw [if_pos cC] at ae;rw [ae];simp (maxSteps:=10^6)+contextual(disch:=try exact dqd)only[evs0,simprocAttr,Cb,Bg,Cc,results164,e0,e1,e2,e6,e7,e8,c1,c2,hz,w5,w6,df,hE,hP,hT,hA,k1,k2,k3,k4,frA,Bf]
 have k4:((D:Int).tdiv (x:Int) == 0)=false:=bD
 rw [if_neg cB] at ae;rw [ae];simp (maxSteps:=10^6)+contextual(disch:=try exact dqd)only[evs0,simprocAttr,Cb,Bg,Cc,results164,e0,e1,e2,e6,e7,e8,c1,c2,hz,w5,w6,df,k1,k2,k3,k4,frA,Gy]):p:=h
def Ya2 (h:p:=by
 by_cases b3:(D:Int) >= 2147483648
 ·have k3:decide ((D:Int) >= 2147483648)=true:=bC
  rw [if_pos cF] at ae;rw [ae];simp (maxSteps:=10^6)+contextual(disch:=try exact dqd)only[evs0,simprocAttr,Cb,Bg,Cc,results164,e0,e1,e2,e6,e7,e8,c1,c2,df,hE,hP,hT,hA,k1,k2,k3,frA,Bf]
 have k3:decide ((D:Int) >= 2147483648)=false:=bC
 by_cases b4:(D:Int)=0
 ·have k4:((D:Int) == 0)=true:=bD
  rw [if_pos cC] at ae;rw [ae];simp (maxSteps:=10^6)+contextual(disch:=try exact dqd)only[evs0,simprocAttr,Cb,Bg,Cc,results164,e0,e1,e2,e6,e7,e8,c1,c2,df,hE,hP,hT,hA,k1,k2,k3,k4,frA,Bf]
 have k4:((D:Int) == 0)=false:=bD
 rw [if_neg cB] at ae;rw [ae];simp (maxSteps:=10^6)+contextual(disch:=try exact dqd)only[evs0,simprocAttr,Cb,Bg,Cc,results164,e0,e1,e2,e6,e7,e8,c1,c2,df,k1,k2,k3,k4,frA,Gy]):p:=h
def Ya3 (h:p:=by
 simp (maxSteps:=10^6)+contextual(disch:=try exact dqd)only[ev0,simprocAttr,Cb,Bg,Cc,results62,d0',q0];refine loop1 (P:=prog) (fun x st=>st.T.length=25/\(x.1<=n.natAbs)/\(x.2.1++dig x.1=dig n.natAbs)/\(Bn st.tk x.2.2 1=true)/\getT st.T 0=.int n/\getT st.T 2=.ref 0 0 0/\getT st.T 3=.prim (.int .u64 (x.1:Nat))/\getT st.T 4=.frz (x.2.1.map digC) x.2.2/\st.S=[⟨0,[.bool false,.frz [] .nilc]⟩]) (fun x=>x.1) (fun x=>zA n) (n.natAbs,[],.nilc) ?_ ?_;case refine_2=>exact ⟨rfl,Ce _,rfl,rfl,rfl,rfl,rfl,rfl,rfl⟩
 rintro ⟨u,out,c⟩ ⟨T,S',tk',n'⟩ ⟨hl,hu,he,ah,e0,e2,e3,e4,eS⟩ IH;simp only at hu he ah e0 e2 e3 e4 eS;subst eS;obtain ⟨g,hg,hT⟩:=Au hl;rw [hg] at e0 e2 e3 e4;subst hT;clear hg hl;have hlen:=Am3 he hN;have hr:=D5 out;have ci:=B3 ah;by_cases h0:u=0
 ·have d1:decide ((u:Int) > 0)=false:=aD
  subst h0;have hd:=Ae7 he;subst hd;cases d2:decide (n<0) with
  | true =>
   simp (maxSteps:=10^6)+contextual(disch:=try exact dqd)only[ev0,simprocAttr,Cb,Bg,Cc,results62,e0,e2,e3,e4,d1,d2];simp [zA,bigA,digA,d2]
  | false =>
   simp (maxSteps:=10^6)+contextual(disch:=try exact dqd)only[ev0,simprocAttr,Cb,Bg,Cc,results62,e0,e2,e3,e4,d1,d2];simp [zA,bigA,digA,d2]
 ·have d1:decide ((u:Int) > 0)=true:=aD
  have iv:¬ ((10000:Int)=0):=aA
  have bo:(out.map digC).length+1<=1048576:=aD
  have q1:(u:Int).tmod 10000=((u % 10000:Nat):Int):=by
   rw [Ic aA]; omega
  have q2:Ca.wrap ((u % 10000:Nat):Int)=((u % 10000:Nat):Int):=Ac aC;have q3:kF.wrap ((u:Int).tdiv 10000)=((u / 10000:Nat):Int):=by
   rw [Fe aA,Aar aA aA]; omega
  have hs:=Ae8 he h0;simp (maxSteps:=10^6)+contextual(disch:=try exact dqd)only[ev0,simprocAttr,Cb,Bg,Cc,results62,e0,e2,e3,e4,d1,iv,q1,q2,q3,hr];exact IH (u / 10000,out++[((u % 10000:Nat):Int)],A6 tk' c 1) _ aF ⟨rfl,aE,hs,ci,aB,aB,aB,aB,aB⟩):p:=h
def Ya4 (h:p:=by
 subst hM;refine loop1 (P:=prog) (fun x st=>st.T.length=34/\(x.1.gcd x.2=g)/\(x.1<=100000000000000000)/\(x.2<=100000000000000000)/\getT st.T 0=.int (M:Int)/\getT st.T 1=.int (D:Nat)/\getT st.T 4=.ref 0 0 0/\getT st.T 5=.int (x.1:Nat)/\getT st.T 6=.int (x.2:Nat)/\st.S=[⟨0,[.prim (.bool false),.frz [] .nilc,.prim (.bool false),.frz [] .nilc]⟩]) (fun x=>x.2) (fun x=>.agg (ceW res)) ((M:Int).natAbs,D) ?_ ?_;case refine_2=>exact ⟨rfl,cO,aA,aA,rfl,rfl,rfl,rfl,rfl,rfl⟩
 rintro ⟨x,y⟩ ⟨T,S',tk',n'⟩ ⟨hl,i5,hx,hy,e0,e1,e4,e5,e6,eS⟩ IH;simp only at i5 hx hy e0 e1 e4 e5 e6 eS;subst eS;obtain ⟨g,hg,hT⟩:=Au hl;rw [hg] at e0 e1 e4 e5 e6;subst hT;clear hg hl;by_cases h0:y=0
 ·subst h0;have c1:(((0:Nat):Int) != 0)=false:=rfl;rw [Og] at i5;subst i5;have hz:¬ ((x:Int)=0):=aA
  have v1:=Bb (M:Int) x;have v2:=Bb (D:Int) x;have w5:Ca.wrap ((M:Int).tdiv (x:Int))=(M:Int).tdiv (x:Int):=Ac aC;have w6:Ca.wrap ((D:Int).tdiv (x:Int))=(D:Int).tdiv (x:Int):=Ac aC;have hA:=fun S tk k=>Ps S tk k ((M:Int).tdiv (x:Int)) aC;have hB:=fun S tk k=>Ps S tk k ((D:Int).tdiv (x:Int)) aC;simp only [zA,bigA,digA] at hA hB;simp (maxSteps:=10^6)+contextual(disch:=try exact dqd)only[ev1,simprocAttr,Cb,Bg,Cc,results67,e0,e1,e4,e5,e6,c1,hz,w5,w6,hA,hB,xF];rw [hr];rfl
 ·have c1:((y:Int) != 0)=true:=aD
  have hz:¬ ((y:Int)=0):=aA
  have hm:Ca.wrap ((x:Int).tmod (y:Int))=((x % y:Nat):Int):=by
   have h1:(x:Int).tmod (y:Int)=((x % y:Nat):Int):=bY
   have h2:x % y<y:=Si _ aA;rw [h1,Ac aC]
  have hlt:x % y<y:=Si _ aA;simp (maxSteps:=10^6)+contextual(disch:=try exact dqd)only[ev1,simprocAttr,Cb,Bg,Cc,results67,e0,e1,e4,e5,e6,c1,hz,hm];exact IH (y,x % y) _ aF ⟨rfl,eQ,aE,aE,aG,aG,aG,aG,aG,aG⟩):p:=h
def Ya5 (h:p:=by
 obtain ⟨y,hy⟩:∃ y,y=qF.minus a0 r0:=⟨_,rfl⟩;have oy:qF.ok y.1:=by rw [hy]; exact Dj.minus _ _ oa0 or0
 rw [aj,<- hy] at ny;have wi:Ca.wrap ((p.length:Int)+1)=(((p++[y.1]).length:Nat):Int):=bI
 have dk:=ak.T.fa;have fm:=ak.T.costE;have mr:entAt S' (S.length+2) I.ec=some (flat ga0 (p++a0 :: v)):=Za4v
 have tu:=Ap (ce:=ga0) ga1 (Ej (p:=p) (u:=v) (x:=a0));have hrt:=Ap (ce:=ga0) ga1 cg;have g9:=ak.E16;have db:=L2 S' tk' n' iq eq _ a0 r0 oa0 or0 dk;have hg1:=Ek (c:=y.2) dk;rw [<- hy] at db;obtain ⟨S1a,kr⟩:∃ S1a,S1a=flS S' iq eq y.2:=⟨_,rfl⟩;have l6:=ak.flag (S':=flS S' iq eq y.2) (fun j hj=>ga8 hj) Bm dk.fS;rw [<- kr] at db hg1 l6;have pn:entAt S1a (S.length+2) I.ec=some (flat ga0 (p++a0 :: v)):=Za3c
 have ho:=A5 (ce:=ga0) ga1 (l:=p++a0 :: v) (k:=p.length) (q':=y.1) (by simp);rw [Ev] at ho;have fi:=l6.cost (k':=p++y.1 :: v) (by simp) (fun q hq=>by
  rcases C5.1 hq with h|h
  ·exact ak.T.okc q bO
  ·rcases Cv.1 h with rfl|h
   ·exact oy
   ·exact ak.T.okc q bO)
 rw [a8.2.2] at fi;have io:∀ x,Ib S'.length (put S1a (S.length+2) x)=put S1a (S.length+2) x:=fun x=>C6 Za3f;simp (maxSteps:=10^6)+contextual(disch:=try exact dqd)only[evg1,simprocAttr,Cb,Bg,Cc,ga36,e0,e1,e2,e7,e10,e11,e12,e14,e15,e16,e18,e19,e83,e84,e85,e194,e195,c2,c6,c7,c7b,wi,wv,ev,mr,tu,hrt,g9,sy,db,hg1,pn,ho,io,Eh,xfs,ga5,ga9,ga1,ga6];exact IH (put S1a (S.length+2) ⟨I.ec,flat ga0 (p++y.1 :: v)⟩,n'+ua4,p++[y.1],v,Cj fq y.2) _ aF ⟨rfl,Za0w,Za0g,Za0z,bJ⟩):p:=h
def Ya6 (h:p:=by
 have c1:((y:Int) != 0)=true:=aD
 have hz:¬ ((y:Int)=0):=aA
 have hm:Ca.wrap ((x:Int).tmod (y:Int))=((x % y:Nat):Int):=by
  have h1:(x:Int).tmod (y:Int)=((x % y:Nat):Int):=bY
  have h2:x % y<y:=Si _ aA;rw [h1,Ac aC]
 have hlt:x % y<y:=Si _ aA;simp (maxSteps:=10^6)+contextual(disch:=try exact dqd)only[ev1,simprocAttr,Cb,Bg,Cc,results67,e0,e1,e4,e5,e6,c1,hz,hm];exact IH (y,x % y) _ aF ⟨rfl,eQ,aE,aE,aG,aG,aG,aG,aG,aG⟩):p:=h
def Ya7 (h:p:=by
 rw [hfe] at ed hS;rw [if_neg F6] at hS;simp only [A8,Cg] at hS;obtain ⟨rfl,rfl⟩:=hS;obtain ⟨rm,og,Sm,km,tkm,cm,rfl,u9,oi,eh⟩:=Tl (Sf++[(⟨kf,ans0⟩:Ent)]) tkb (kf+1) iq eq I t cc (om.app _) Za1z;have tj:Sm.length=Sf.length+1:=gX
 have l7:entAt Sm Sf.length kf=some ans0:=iA
 have fu:entAt Sm S.length k=some ans0:=iB
 have hR:J8 (Hd qF t).1=(Hd qF t).1.map fun q=>ceW (qF.rat q):=rfl;have te:∀ cs,entAt (put Sm Sf.length ⟨kf,cs⟩) Sf.length kf=some cs:=fun cs=>Ae aA;have ju:∀ x,entAt (put Sm Sf.length x) S.length k=some ans0:=fun x=>Za79
 have qj:∀ x,FAq (put Sm Sf.length x) iq eq (Cj t.fl (Hd qF t).2):=fun x=>oi.fa.put aA;have qk:=fun x=>Vg (put Sm Sf.length x) tkm km iq eq _ (qj x);have hPP:∀ x cs,entAt (put (put Sm Sf.length x) S.length ⟨k,cs⟩) S.length k=some cs:=fun x cs=>Ae bQ;simp only [ans0] at l7 fu ju og;simp (maxSteps:=10^6)+contextual(disch:=try exact dqd)only[evg1,simprocAttr,Cb,Bg,Cc,ga44,Ar,Aq,th,lq,gg,ed,og,l7,te,ju,qk,hPP,Eh,xfs];rw [hΦ];refine ⟨_,_,_,.nilc,cm,none,false,Za1t,eW,fun j h1 h2=>?_,fun v hv=>dR,fun _=>⟨rfl,rfl⟩⟩;rw [B6 h1,Ab aA,Ab aA,eh _ (ft _ aA h2),Ax aA,r6 _ (ft _ aA h2)];exact am j h1 h2):p:=h
def Ya8 (h:p:=by
 have c1:((y:Int) != 0)=true:=aW
 have hz:¬ ((y:Int)=0):=aA
 have hm:(x:Int).tmod (y:Int)=((x % y:Nat):Int):=bY
 simp (maxSteps:=10^6)+contextual(disch:=try exact dqd)only[evs0,simprocAttr,Cb,Bg,Cc,results164,e0,e1,e2,e6,e7,e8,c1,hz,hm];have hlt:=Si x (by omega:0<y);exact IH (y,x % y) _ aF ⟨rfl,eM,hy,aE,aP⟩):p:=h
def Ya9 (h:p:=by
 rintro i ⟨T,S',tk',n'⟩ ⟨hl,hi,hn,e33,e34,e35,eS⟩ IH;subst eS;obtain ⟨g,hg,hT⟩:=Au hl;rw [hg] at e33 e34 e35;subst hT;clear hg hl;by_cases hlt:i<l.length
 ·have d1:decide ((i:Int)<(l.length:Int))=true:=aQ
  obtain ⟨x,hx⟩:=Af hlt;have hx':=B2 hx;have hw:=B1 (i:=i) aA;rw [A1 hx] at hn;simp only [allD] at hn;simp (maxSteps:=10^6)+contextual(disch:=try exact dqd)only[ev0,simprocAttr,Cb,Bg,Cc,results119,e33,e34,e35,d1,digA,hx',hw];refine ⟨fun h1=>?_,fun h1=>⟨fun h2=>?_,fun h2=>?_⟩⟩
  ·rw [hn,if_pos dB]
  ·rw [hn,if_pos fA]
  ·exact IH (i+1) _ aF ⟨rfl,hlt,iC,aB,aB,aB,aB⟩
 ·have d1:decide ((i:Int)<(l.length:Int))=false:=aQ
  have he:i=l.length:=aA
  rw [he,Ik] at hn;simp (maxSteps:=10^6)+contextual(disch:=try exact dqd)only[ev0,simprocAttr,Cb,Bg,Cc,results119,e33,e34,e35,d1,digA];exact hn.symm):p:=h
def Yaa (h:p:=by
 rintro i ⟨T,S',tk',n'⟩ ⟨hl,hi,hn,e1,e3,e4,eS⟩ IH;subst eS;obtain ⟨g,hg,hT⟩:=Au hl;rw [hg] at e1 e3 e4;subst hT;clear hg hl;by_cases hlt:i<l.length
 ·have d1:decide ((i:Int)<(l.length:Int))=true:=aQ
  obtain ⟨x,hx⟩:=Af hlt;have hx':=B2 hx;have hw:=B1 (i:=i) aA;rw [A1 hx] at hn;simp only [allD] at hn;simp (maxSteps:=10^6)+contextual(disch:=try exact dqd)only[ev0,simprocAttr,Cb,Bg,Cc,results42,e1,e3,e4,d1,digA,hx',hw];refine ⟨fun h1=>?_,fun h1=>⟨fun h2=>?_,fun h2=>?_⟩⟩
  ·rw [hn,if_pos dB]
  ·rw [hn,if_pos fA]
  ·exact IH (i+1) _ aF ⟨rfl,hlt,iC,aB,aB,aB,aB⟩
 ·have d1:decide ((i:Int)<(l.length:Int))=false:=aQ
  have he:i=l.length:=aA
  rw [he,Ik] at hn;simp (maxSteps:=10^6)+contextual(disch:=try exact dqd)only[ev0,simprocAttr,Cb,Bg,Cc,results42,e1,e3,e4,d1,digA];exact hn.symm):p:=h
def Yab (h:p:=by have hB:=fun S tk k=>Ps S tk k ((D:Int).tdiv (x:Int)) aC;simp only [zA,bigA,digA] at hA hB;simp (maxSteps:=10^6)+contextual(disch:=try exact dqd)only[ev1,simprocAttr,Cb,Bg,Cc,results67,e0,e1,e4,e5,e6,c1,hz,w5,w6,hA,hB,xF];rw [hr];rfl):p:=h
def Yac (h:p:=by refine opP func15 ntmps15 (hp3:=rfl) ?_;simp (maxSteps:=10^6)+contextual(disch:=try exact dqd)only[ev1,simprocAttr,Cb,Bg,Cc,results15,Ar,Aq,hC,hL,hI,c1,c2,hAr,zt,hV,hX]):p:=h
def Yad (h:p:=by
 have hsz:(ini.toArray.push o).size=ini.toArray.size+1:=by simp
 rw [hsz];have a2n:Sl (ini.toArray.size+1) false=(Sl ini.toArray.size false).push false:=by
  rw [Array.replicate_succ]
 rw [a2n];refine Af6 hg (fun j hj=>?_) (fun e he=>?_) (fun i o' il=>?_) _ _ _ _ (by simp) (fun j hj=>?_) hw
 ·have:=b9 j bH;rw [ue]; simpa using this
 ·have:=hla e (by rw [ue] at he; simpa using he);simpa using this
 ·have b7:=(Ck.1 il).1;have:=hde i fX;rw [il] at this;refine ⟨fun e he=>this.1 e he,fun g w hgw=>?_⟩;have h3:=this.2;simp only [hgw] at h3;simpa using h3
 ·rw [Fv,Array.getElem?_replicate] at hj;split at hj <;> simp at hj):p:=h
def Yae (h:p:=by
 by_cases ah:B8 st a=true
 ·simp only [ah,if_true];constructor
  ·rintro ⟨n,h⟩;split at h
   ·rename_i s1 h1;have e:@evOs (gM (mdOf a)) P (K5 (mdOf a) P (cL P)) a a st=some s1:=Dh (G:=gM _) (Aiq n).pure h1;rw [e];simp only [Cd] at h ⊢;obtain ⟨s,h1,h2⟩:=h;exact ⟨s,Dh (Aiq n) h1,h2⟩
   ·simp at h
  ·intro h;split at h
   ·rename_i s1 h1;simp only [Cd] at h;obtain ⟨s,h2,h3⟩:=h;obtain ⟨n,hn⟩:=Aep h1;obtain ⟨m,hm⟩:=Aeo h2;refine ⟨max n m,?_⟩;rw [Dh (G:=gM _) (Eu (show n<=max n m by omega)).pure hn];simp only [Cd];exact ⟨s,Dh (Eu (show m<=max n m by omega)) hm,h3⟩
   ·simp at h
 ·simp [ah]):p:=h
def Yaf (h:p:=by
 have dt:p.length=W:=gi;refine ak.T.add (b:=c+i) (f:=fb) ?_ ?_ hbF ?_ (by show rowZ.length=p.length; omega) orowZ (fun q hq=>?_) ?_ (ak.T.fa.of (mw iq aA aA (fun _=>⟨aA,aA⟩))) hAp Za4d (by show c+i<p.length; omega)
 ·rw [a8.1,a8.2.1,htF,a07]; simp only [a8.2.2,dt,b9,ly,jo,intA]
 ·rw [hrF]; simp only [dt]
 ·rw [Aa (mw (L+1) aA aA (fun h=>⟨by have:=ak.low.ir (hne h); omega,by have:=ak.low.ib (hne h); omega⟩))]; exact ak.E16
 ·have df:=ak.T.ap.row q hq;have hq2:=ak.low.row q hq;exact mw q.1 aA (by have:=lz.2.2 q hq; omega) (fun _=>⟨df.2.1,df.2.2.2.1⟩)
 ·exact mw _ (by have:=ak.low.ic; omega) aA (fun _=>⟨ak.T.ap.rc.symm,ak.T.ap.cb⟩)):p:=h
def Yag (h:p:=by rw [if_pos cH] at ae;rw [ae];simp (maxSteps:=10^6)+contextual(disch:=try exact dqd)only[evs0,simprocAttr,Cb,Bg,Cc,results164,e0,e1,e2,e6,e7,e8,c1,c2,hz,w5,w6,df,hE,hP,hT,hA,k1,k2,frA,Bf]):p:=h
def Yah (h:p:=by rw [if_pos cP] at ae;rw [ae];simp (maxSteps:=10^6)+contextual(disch:=try exact dqd)only[evs0,simprocAttr,Cb,Bg,Cc,results164,e0,e1,e2,e6,e7,e8,c1,c2,hz,w5,w6,df,hE,hP,hT,hA,k1,frA,Bf]):p:=h
def Yai (h:p:=by rw [if_pos cH] at ae;rw [ae];simp (maxSteps:=10^6)+contextual(disch:=try exact dqd)only[evs0,simprocAttr,Cb,Bg,Cc,results164,e0,e1,e2,e6,e7,e8,c1,c2,df,hE,hP,hT,hA,k1,k2,frA,Bf]):p:=h
def Yaj (h:p:=by rw [if_pos cP] at ae;rw [ae];simp (maxSteps:=10^6)+contextual(disch:=try exact dqd)only[evs0,simprocAttr,Cb,Bg,Cc,results164,e0,e1,e2,e6,e7,e8,c1,c2,df,hE,hP,hT,hA,k1,frA,Bf]):p:=h
def Yak (h:p:=by rw [d3] at d1;simp (maxSteps:=10^6)+contextual(disch:=try exact dqd)only[ev1,simprocAttr,Cb,Bg,Cc,results46,zA,bigA,digA,d1,d3,hL,hM,hp,F0,Fq]):p:=h
def Yal (h:p:=by
 have hw2:Ca.wrap (x+c+y)=x+c+y:=Ac aC;have ra:Ca.wrap ((x+c+y).tdiv 10000)=(x+c+y).tdiv 10000:=by
  rw [Fe aA]; exact Ac aC
 simp (maxSteps:=10^6)+contextual(disch:=try exact dqd)only[ev0,simprocAttr,Cb,Bg,Cc,results206,e1,e5,e6,e20,e21,e22,digA,d2,d3,hx',ng,ez,hw1,hw2,ra,iv,hr];exact IH (i+1,zs++[(x+c+y).tmod 10000],(x+c+y).tdiv 10000,A6 tk' cp 1) _ aF ⟨rfl,aE,hI.step hx gU hxk hyk rfl,ci,aB,aB,aB,aB,aB,aB,aB⟩):p:=h
def Yam (h:p:=by
 have ra:Ca.wrap ((x+c).tdiv 10000)=(x+c).tdiv 10000:=by
  rw [Fe aA]; exact Ac aC
 simp (maxSteps:=10^6)+contextual(disch:=try exact dqd)only[ev0,simprocAttr,Cb,Bg,Cc,results206,e1,e5,e6,e20,e21,e22,digA,d2,d3,hx',ez,hw1,ra,iv,hr];exact IH (i+1,zs++[(x+c).tmod 10000],(x+c).tdiv 10000,A6 tk' cp 1) _ aF ⟨rfl,aE,hI.step (y:=0) hx (by rw [Ag,Cu aE]; rfl) hxk aE aE,ci,aB,aB,aB,aB,aB,aB,aB⟩):p:=h
def Yan (h:p:=by
 refine ⟨hl2.os,hl2.tape,hl2.output,hl2.size,rfl,Nat.le_succ_of_le hl2.n,fun x o hx hm=>?_,hl2.cell,hl2.keep,hl2.shape,fun id e' he hn=>?_,hl2.tok⟩
 ·rcases Z9 hm with h|h
  ·exact hl2.mt x o hx h
  ·omega
 ·rcases Ls he with ⟨h1,h2⟩|⟨h1,h2⟩
  ·subst h2;have:=hl2.n;simp only at this hn;omega
  ·obtain ⟨w1,w2,w3,w4⟩:=hl2.ent id e' h2 hn;refine ⟨w1,w2,w3,?_⟩;simp only [Cx.rev];rw [if_neg aA];exact w4):p:=h
def Yao (h:p:=by have hJ:=fun S tk k=>Aj5 S tk k (decide (an<0)) (dig an.natAbs) (decide (ad<0)) (dig ad.natAbs) (decide (bn<0)) (dig bn.natAbs) (decide (bd<0)) (dig bd.natAbs) aA aA aA aA;rw [g1,g2,g3,g4] at hJ;simp only [resQ,qA,ratA,ceW,digA] at a7 ai hJ ⊢;simp (maxSteps:=10^6)+contextual(disch:=try exact dqd)only[ev1,simprocAttr,Cb,Bg,Cc,results41,a7,ai,hJ];rw [hr]; exact ⟨rfl,rfl,rfl,rfl⟩):p:=h
def Yap (h:p:=by have hJ:=fun S tk k=>Aj4 S tk k (decide (an<0)) (dig an.natAbs) (decide (ad<0)) (dig ad.natAbs) (decide (bn<0)) (dig bn.natAbs) (decide (bd<0)) (dig bd.natAbs) aA aA aA aA;rw [g1,g2,g3,g4] at hJ;simp only [resQ,qA,ratA,ceW,digA] at a7 ai hJ ⊢;simp (maxSteps:=10^6)+contextual(disch:=try exact dqd)only[ev1,simprocAttr,Cb,Bg,Cc,results64,a7,ai,hJ];rw [hr]; exact ⟨rfl,rfl,rfl,rfl⟩):p:=h
def Yaq (h:p:=by have hJ:=fun S tk k=>Adz S tk k (decide (an<0)) (dig an.natAbs) (decide (ad<0)) (dig ad.natAbs) (decide (bn<0)) (dig bn.natAbs) (decide (bd<0)) (dig bd.natAbs) aA aA aA aA;rw [g1,g2,g3,g4] at hJ;simp only [resQ,qA,ratA,ceW,digA] at a7 ai hJ ⊢;simp (maxSteps:=10^6)+contextual(disch:=try exact dqd)only[ev1,simprocAttr,Cb,Bg,Cc,results93,a7,ai,hJ];rw [hr]; exact ⟨rfl,rfl,rfl,rfl⟩):p:=h
def Yar (h:p:=by rw [aj] at gg hS;simp (maxSteps:=10^6)+contextual(disch:=try exact dqd)only[evg1,simprocAttr,Cb,Bg,Cc,ga44,Ar,Aq,th,lq,gg,gc,qi,zq,Eh,xfs];rw [if_pos rfl] at hS;simp only [A8,Cg] at hS;obtain ⟨rfl,rfl⟩:=hS;rw [hΦ];refine ⟨_,_,_,.nilc,.nilc,none,false,rfl,Za33,fun j h1 h2=>?_,fun v hv=>dR,fun _=>⟨rfl,rfl⟩⟩;rw [B6 h1,Ab aA]; exact am j h1 h2):p:=h
def Yas (h:p:=by have hJ:=fun S tk k=>Ady S tk k (decide (an<0)) (dig an.natAbs) (decide (ad<0)) (dig ad.natAbs) (decide (bn<0)) (dig bn.natAbs) (decide (bd<0)) (dig bd.natAbs) aA aA aA aA;rw [g1,g2,g3,g4,<- hr] at hJ;simp only [ratA,ceW,digA] at a7 ai hJ ⊢;simp (maxSteps:=10^6)+contextual(disch:=try exact dqd)only[ev1,simprocAttr,Cb,Bg,Cc,results95,a7,ai,hJ,Oj,Oe]):p:=h
def Yat (h:p:=by simp only [tv,Cd,Cg] at cr;obtain ⟨cs,-,-,rfl⟩:=cr;simp only;rw [Ag,Ag,C3 aA]):p:=h
def Yau (h:p:=by exact IH (i+1,n.tdiv 10000,out++[n.tmod 10000],A6 tk' c 1) _ aF ⟨rfl,aj,aE,ci,aE,aB,aB,aB,aB,aB,aB⟩):p:=h
def Yav (h:p:=by obtain ⟨i,hi⟩:=kG hp;have b7:=(Fx.1 hi).1;obtain ⟨r,hr⟩:=Af (show i<t.rows.length by rw [<- h.nids]; exact b7);exact Aw (h.rowE i p r Za65 hr)):p:=h
def Yaw (h:p:=by
 cases c with
 | unk=>trivial
 | tight=>exact hc
 | nilc=>exact hc
 | nl=>exact hc
 | nn=>exact hc
 | tok id ep sz =>
  obtain ⟨k,h1,h2,h3⟩:=hc;obtain ⟨k',h4,h5,h6⟩:=h.tok id k h1;refine ⟨k',h4,aA,fun e=>?_⟩;rcases h3 aA with h7|⟨b,cs,t,ea,hp,hb,hl⟩
  ·exact .inl h7
  ·obtain ⟨cs',h8,h9⟩:=h.shape b cs t _ hb;exact .inr ⟨b,cs',t,ea,by rw [h6 aA,hp],h8,aA⟩):p:=h
def Yax (h:p:=by
 have c1:(sysE l != 0)=false:=aW
 simp only [ansC,lsC,ceW,Ar,Aq,Cn,Cq] at hA;simp only [Ar,Aq] at hC hV;refine opP func13 ntmps13 (hp3:=rfl) ?_;simp (maxSteps:=10^6)+contextual(disch:=try exact dqd)only[ev1,simprocAttr,Cb,Bg,Cc,results13,Ar,Aq,hC,hV,hA,c1,h0];try (intro h; exact absurd h aO)):p:=h
def Yay (h:p:=by simp only [VR] at hx ⊢;obtain ⟨b,a,cap,h0,h0',h0'',hn,hx⟩:=hx;refine ⟨b,a,cap,h0,h0',h0'',F1 hn h.n,fun e' he r8=>?_⟩;obtain ⟨e,h1,h2,h3⟩:=h.ent id e' he aA;obtain ⟨g1,cs,t,g2,g3⟩:=hx e h1 aA;obtain ⟨cs',g4,g5⟩:=h.shape b cs t _ g2;exact ⟨by rw [h3]; exact g1,cs',t,g4,aA⟩):p:=h
def Yaz (h:p:=by
 refine ⟨fun q h=>?_,fun j=>?_⟩
 ·rcases Cv.1 h with rfl|h
  ·exact hs.1
  ·exact ih.1 q h
 ·cases j with
  | zero=>exact hs.2
  | succ j=>exact ih.2 j):p:=h
def Ya00 (h:p:=by
 refine ⟨fun q h=>?_,fun q h=>?_,fun n j hn=>?_⟩
 ·rcases Cv.1 h with rfl|h
  ·exact hs.1
  ·exact ih.1 q h
 ·rcases Cv.1 h with rfl|h
  ·exact hs.2.1
  ·exact ih.2.1 q h
 ·cases n with
  | zero=>exact hs.2.2 j
  | succ n =>
   have:=ih.2.2 n j cW;rw [show k+1+n=k+(n+1) by omega] at this;exact this):p:=h
def Ya01 (h:p:=by subst m6;have hT:=fun c' S tk k=>Z8 S tk k (zs++[c]) c' aD;rw [hI.done hle] at hT;simp only [F4,Ct,Ei,digC,digA] at hT;simp (maxSteps:=10^6)+contextual(disch:=try exact dqd)only[ev0,simprocAttr,Cb,Bg,Cc,results206,e1,e5,e6,e20,e21,e22,digA,d2,hr,hT]):p:=h
def Ya02 (h:p:=by
 rename_i t' l' c' tv;simp only [tv,Cd,Prod.exists] at cr;obtain ⟨l0,sz0,cs0,-,hh⟩:=cr;split at hh
 ·simp only [Cg] at hh;obtain ⟨-,rfl⟩:=hh;rfl
 ·simp only [Cg] at hh;obtain ⟨-,rfl⟩:=hh;simp only;rw [Ag,Ag,C3 aA]):p:=h
def Ya03 (h:p:=by have hq:=o5.h;have:=Us (P:=P) (fn:=fn) (st:=st) (k:=k) (id:=id) (ops:=ops.toArray) fL fI aM;simp only [kQ,hq] at this;exact this):p:=h
def Ya04 (h:p:=by refine ⟨rfl,rfl,rfl,rfl,rfl,rfl,rfl,by simp [Cx.tok],by simp [Cx.tok,J4],fun i hi=>Za4t,fun i k hk=>?_⟩;have hlt:=Br hk;refine ⟨k,?_,Ce _,fun _=>by simp [J4]; omega⟩;simp only [Cx.tok];rw [Ag] at hk ⊢;rw [C3 hlt]; exact hk):p:=h
def Ya05 (h:p:=by
 obtain ⟨ex,s2⟩:=x;cases ex with
 | normal=>exact absurd h (hne s2)
 | exit id=>rfl
 | ret=>rfl):p:=h
def Ya06 (h:p:=by simp (maxSteps:=10^6)+contextual(disch:=try exact dqd)only[ev1,simprocAttr,Cb,Bg,Cc,results18,ratA,digA,hA,hB,a7,ai,hP,d1]):p:=h
def Ya07 (h:p:=by rw [di] at hx;simp only [Act.put,Qn] at hx;rw [List.getElem?_set_ne (fun h=>f9 (by rw [di,h]))] at hx;exact hx):p:=h
def Ya08 (h:p:=by unfold Oper.wp;rw [hrun];refine Calls.mono hC ?_;rintro e' w' ⟨v,C',rfl,rfl,k1,k2,k3,k4,k5,k6⟩;exact hn v C' k1 k2 k3 k4 k5 k6):p:=h
def Ya09 (h:p:=by exact Mo rfl (Au5 S l vars fl k iq eq c W nz z.1 ⟨hl,gm,hv,hc,dq,m9,yj,nv⟩ oz Φ i b7 r hr sl q7 t1 I cp tk' jo hcl b9 ly ah a8 lz L m0 nu u hU ou SX nx _ jp hR back _ rfl rfl rfl rfl rfl rfl rfl rfl rfl rfl rfl h18 rfl rfl rfl rfl rfl rfl rfl)):p:=h
def Ya0a (h:p:=by
 rintro e w' ⟨rfl,rfl⟩;have mf:=grownCap_ge w 1 0 3;refine ⟨_,rfl,Aj1 (zs:=[x]) hbase (A0 w.drew _) mf (grownCap_le_maxLen w 1 0 _ aA) ?_ ?_,((Fp _ _).drew).alloc hbase _⟩
 ·rw [md]; simp [size_zeroCells,a2t]; omega
 ·simp):p:=h
def Ya0b (h:p:=by subst e; exact ⟨Sw,fun _=>Ce _⟩):p:=h
def Ya0c (h:p:=by
 split at he
 ·rename_i ah;simp only [ah,if_true];split at he
  ·rename_i s1 h1;rw [Dh (G:=gM _) h.pure h1];simp only [Cd] at he ⊢;obtain ⟨x,h1,h2⟩:=he;exact ⟨x,Dh h h1,h2⟩
  ·simp at he
 ·simp at he):p:=h
def Ya0d (h:p:=by obtain ⟨rfl,rfl⟩:=fh ha;refine opP func31 ntmps31 (hp3:=rfl) ?_;simp (maxSteps:=10^6)+contextual(disch:=try exact dqd)only[ev1,simprocAttr,Cb,Bg,Cc,results31,Ar,Aq,dc,hi1,wu,ifcA,hN1,fc,Gm,Ky,io,hN0,hNP];rfl):p:=h
def Ya0e (h:p:=by simp (maxSteps:=10^6)+contextual(disch:=try exact dqd)only[evg1,simprocAttr,Cb,Bg,Cc,results31,Ar,Aq,ifcA,hi1,wu,b8,dc,jn,gc,hP1,fc,tl,a1w,a1y,a1x,put_new];rw [hΦ,m8,ru];exact ⟨_,_,c1,c2,q1,b1,rfl,jd,fh⟩):p:=h
def Ya0f (h:p:=by
 simp only [Ar] at hC;have c1:(sysE l != 0)=true:=aW
 refine opP func13 ntmps13 (hp3:=rfl) ?_;simp (maxSteps:=10^6)+contextual(disch:=try exact dqd)only[ev1,simprocAttr,Cb,Bg,Cc,results13,Ar,hC,c1,h0]):p:=h
def Ya0g (h:p:=by
 split at ho
 ·rename_i hn;rw [if_pos hn];unfold runN at ho ⊢;split at ho
  ·split at ho
   ·rename_i q1 q2;rw [one q1,one q2]; exact ho
   ·simp at ho
  ·exact one ho
 ·rename_i hn;rw [if_neg hn];exact one ho):p:=h
def Ya0h (h:p:=by exact IH (put S3 S.length ⟨k,ga0 y.1⟩,n2+1+ua4+ua3,P++[r0],U,some (P.length,y.1),Cj fq (Cj y.2 d.2)) _ aF ⟨rfl,ko,gy,hTn,⟨_,Ae aE,ga1 _,fun bi' q h=>Za6r⟩,bQ,fun j h1 h2=>Za6z,aP⟩):p:=h
def Ya0i (h:p:=by
 cases hp:ops[j]? with
 | none=>rw [hp] at ey; simp at ey
 | some p =>
  rw [hp] at ey;refine confl j p hp ?_ ?_ hne
  ·rcases dh with dh|dh <;> simp [conf,ey,dh]
  ·rcases dh with dh|dh <;> simp [conf,ey,dh]):p:=h
def Ya0j (h:p:=by
 refine ⟨rfl,rfl,by simp,fun r h=>aR,fun r h=>aR,fun q h=>?_,fun i h=>aN,fun j=>?_,fun i h=>aN,rfl⟩
 ·rw [(Ix.1 h).2]; exact w.1
 ·rw [Akw w.2];split
  ·show (0:Rat)=- 0;grind
  ·rfl):p:=h
def Ya0k (h:p:=by rw [hc] at hC;simp only [digA] at hC hM;simp (maxSteps:=10^6)+contextual(disch:=try exact dqd)only[ev1,simprocAttr,Cb,Bg,Cc,results201,iq1,iq2,iq3,iq4,iq5,zA,bigA,digA,d1,hC,hM]):p:=h
def Ya0l (h:p:=by
 rw [r2.2.2 i' j (by rw [Aj,h.rows]; exact bc),Kz dV,d2.2];unfold Simp.pivT;by_cases e:i'=i
 ·subst e;rw [if_pos aA,if_pos rfl,if_pos rfl,d2.2]; rfl
 ·rw [if_neg aA,if_neg e,if_neg e]; rfl):p:=h
def Ya0m (h:p:=by have:=congrArg List.length hl;simp only [List.length_drop,Ch,h.rows] at this;omega):p:=h
def Ya0n (h:p:=by simp only [VR] at hx ⊢;obtain ⟨b,h0,hn,hx⟩:=hx;refine ⟨b,h0,F1 hn h.n,fun e' he r8=>?_⟩;obtain ⟨e,h1,h2,h3⟩:=h.ent id e' he aA;rw [h3]; exact hx e h1 aA):p:=h
def Ya0o (h:p:=by
 rcases hc with hc|⟨cs,t,ha,hp,hb,hl⟩
 ·exact .inl hc
 ·exact .inr ⟨b,cs,t,ha,Za2i,hb,hl⟩):p:=h
def Ya0p (h:p:=by have h1:=N4 (n:=n) (i:=i+1) (t:=Dq qF t i);have h2:=Xd (t:=t) (i:=i);unfold settleF;exact ⟨h1.1.trans h2.1,h1.2.1.trans h2.2.1,h1.2.2.1.trans h2.2.2.1,h1.2.2.2.trans h2.2.2.2⟩):p:=h
def Ya0q (h:p:=by have:=hle.trans (Le.of_below (C:=C1) hbel);rw [show ({ C1.hid arr t with av:=C.av } : Cx)=C1.at (C1.w.alloc (.cells arr t)) from by unfold Cx.hid Cx.at; rw [hle.av]];exact this):p:=h
def Ya0r (h:p:=by intro c hc;rw [Ft] at hc;obtain ⟨c',jg,rfl⟩:=hc;rw [iG] at jg;obtain ⟨r,hr,jg⟩:=jg;exact Fb.1 (Fb.1 hp r hr) c' jg):p:=h
def Ya0s (h:p:=by simp (maxSteps:=10^6)+contextual(disch:=try exact dqd)only[ev1,simprocAttr,Cb,Bg,Cc,results202,ratA,digA,np,nq,yy,b8,bp,hD,hO,dc,F0,Fq]):p:=h
def Ya0t (h:p:=by
 have h3:=hD.t2 t fun j hj=>ht j ((aw j).2 (.inr hj));cases ip:o.dst with
 | none=>simp only [putT]; exact h3
 | some d =>
  simp only [putT];rw [Df (fun x=>hne dA)];exact h3):p:=h
def Ya0u (h:p:=by exact IH (S3,n2+1+ua4+ua3,P++[r0],U,some (bi,least),Cj fq (Cj y.2 d.2)) _ aF ⟨rfl,ko,gy,y6,⟨_,Za5q,ga1 _,fun bi' q h=>Za6t⟩,aE,fun j h1 h2=>Za3q,aP⟩):p:=h
def Ya0v (h:p:=by
 simp only [Instr.indexAt,asIntOf,Fw,I9,Fh,Bv he];have:(0:Int)<=(k:Int)/\(k:Int)<(n:Int):=aA
 simp [Sc,this,Gl hs,D9]):p:=h
def Ya0w (h:p:=by refine (H4 hc j3 ho fun u C2 k1 k2 k3 k4 k5 k6=>?_).1;simp only [A8] at h2;subst h2;exact hQ _ C2 (hle.trans k1) (j3.put k1 k2 k3 k4 k5 k6 hT)):p:=h
def Ya0x (h:p:=by
 by_cases h:c
 ·simp [h]; intro h'; cases h'
 ·simp [h]; rfl):p:=h
def Ya0y (h:p:=by
 by_cases h:c
 ·simp [h]; rfl
 ·simp [h]; intro h'; cases h'):p:=h
def Ya0z (h:p:=by simp only [A8] at h; subst h;refine .mk ?_;rw [Fw,Ec (by simp)];simp only [Fh,binOp,Fw,Ra he,I9]):p:=h
def Ya10 (h:p:=by simp (maxSteps:=10^6)+contextual(disch:=try exact dqd)only[ev1,simprocAttr,Cb,Bg,Cc,results192,ratA,digA,hA,hB,hK,hO1,hO2,tz,hO4,a7,ai,hS,hM]):p:=h
def Ya11 (h:p:=by
 simp only [Instr.indexAt,asIntOf,Fw,I9,Fh,Bv (Eb he)];have:(0:Int)<=(k:Int)/\(k:Int)<(len:Int):=aA
 simp [this,Gl hs,D9]):p:=h
def Ya12 (h:p:=by
 simp only [Act.put,Qn] at hx;rw [List.getElem?_set] at hx;simp only [if_true] at hx;split at hx
 ·simpa using hx.symm
 ·simp at hx):p:=h
def Ya13 (h:p:=by
 intro n;induction n using Sk with
 | _ n ih =>
  intro x st hn hI;rw [Yz];exact h x st hI fun y st' hlt hy=>ih (μ y) (hn ▸ hlt) y st' rfl hy):p:=h
def Ya14 (h:p:=by simp only [Cd,Cg] at h;obtain ⟨cs,_,rfl,rfl⟩:=h;exact ⟨Za0e,Zax,hI.tk,slot rfl (fun _=>⟨_,_,_,rfl,hI.le⟩)⟩):p:=h
def Ya15 (h:p:=by have:=Bc jh;rw [h5,Q2] at this;simp at this ⊢;omega):p:=h
def Ya16 (h:p:=by simp (maxSteps:=10^6)+contextual(disch:=try exact dqd)only[ev1,simprocAttr,Cb,Bg,Cc,results192,ratA,digA,hA,hB,hK,hw1,hw2,d1,d2]):p:=h
def Ya17 (h:p:=by have h3:n.natAbs.gcd d.natAbs<=d.natAbs:=jZ _ aA;exact Fs (Bp.2 (J9 h3 (Bp.1 (Ce _)))) hd):p:=h
def Ya18 (h:p:=by
 rcases (aw j).1 hj with rfl|hj
 ·exact o4 e he
 ·exact hD.closed j hj e he):p:=h
def Ya19 (h:p:=by simp (maxSteps:=10^6)+contextual(disch:=try exact dqd)only[ev1,simprocAttr,Cb,Bg,Cc,results170,iq1,iq2,iq3,iq4,iq5,Qr,digA]):p:=h
def Ya1a (h:p:=by rw [hr];simp (maxSteps:=10^6)+contextual(disch:=try exact dqd)only[evs0,simprocAttr,Cb,Bg,Cc,results161,frA,k1,k2,new1a,Jn]):p:=h
def Ya1b (h:p:=by subst hr;simp (maxSteps:=10^6)+contextual(disch:=try exact dqd)only[ev1,simprocAttr,Cb,Bg,Cc,results95,a7,ai,v1,v2,k1,k2]):p:=h
def Ya1c (h:p:=by unfold apO;rw [h]; simp only [hl];rw [if_pos ⟨aA,cZ⟩];simp only [apO2,hE];rw [if_pos ⟨trivial,h0⟩];rw [if_pos ⟨aA,Za5f⟩]):p:=h
def Ya1d (h:p:=by simpa using this):p:=h
def Ya1e (h:p:=by exact IH (u.tdiv 10000,out++[((u.natAbs % 10000:Nat):Int)],A6 tk' c 1) _ aF ⟨rfl,aC,by rw [t2]; exact hs,ci,aB,aB,aB,aB,aB⟩):p:=h
def Ya1f (h:p:=by
 cases U with
 | nil=>simp at vq; omega
 | cons x u=>exact ⟨x,u,rfl⟩):p:=h
def Ya1g (h:p:=by rw [hK];exact ⟨l1,aA,hneg,fun j hj=>x5 j (Cl _) hj,l2,fun i' bc hp=>(l5 i' bc hp).1,fun i' bc hp=>(l5 i' bc hp).2⟩):p:=h
def Ya1h (h:p:=by simp only [over,Cd] at h;obtain ⟨x,h,rfl⟩:=h;simp only [Cn,over,Aql p h,C8]):p:=h
def Ya1i (h:p:=by simp only [VR] at hx ⊢;obtain ⟨b,o,vs,e,hl,hr⟩:=hx;exact ⟨b,o,vs,e,hl.stays h.stays,PRs.stays h.stays cs vs hr⟩):p:=h
def Ya1j (h:p:=by
 cases hp:ops[j]? with
 | none=>rw [hp] at ey; simp at ey
 | some p =>
  rw [hp] at ey;have:=(confl j p hp fH fH aA).1 h4;omega):p:=h
def Ya1k (h:p:=by have hr:=Reach.run R;rw [h0] at hr;exact ⟨fun c hc=>Hm hM hI hX hr dX,fun r s h1 h2 h3=>Jm hM hI hX hr h1 h2 h3⟩):p:=h
def Ya1l (h:p:=by have h1:=fd.nids;have h2:=ag.nids;rw [h0] at h2;exact absurd (C4.1 (by rw [<- h1,h2]; rfl)) hr):p:=h
def Ya1m (h:p:=by have:=F8.2 this;simp; omega):p:=h
def Ya1n (h:p:=by simp only [Bl,D7,h1,h2,h3,h4,hpp,Kh,h5]; rfl):p:=h
def Ya1o (h:p:=by simp only [Cx.tok];obtain ⟨x,hx⟩:=Af (l:=put C.tk id (ep+1)) (i:=id) (by rw [Ai]; exact Br h.2);rw [hx,Er hx]):p:=h
def Ya1p (h:p:=by unfold apO;rw [h]; simp only [hl];rw [if_pos ⟨aA,cZ⟩];rfl):p:=h
def Ya1q (h:p:=by simp (maxSteps:=10^6)+contextual(disch:=try exact dqd)only[ev1,simprocAttr,Cb,Bg,Cc,results61,d1,d2]):p:=h
def Ya1r (h:p:=by
 rw [dx,dw];intro q hq;rcases Bk hq with rfl|hq
 ·exact od
 ·rcases Bk hq with rfl|hq
  ·exact oo
  ·exact orowY q hq):p:=h
def Ya1s (h:p:=by have:=(Fx.1 hj).1;simp at this; omega):p:=h
def Ya1t (h:p:=by subst e;rw [if_pos rfl] at ae;rw [hp] at hq;simp only [A8] at ae hq;subst ae; subst hq; exact he):p:=h
def Ya1u (h:p:=by
 funext k;show at_ 0 (put t.basis i c) k=if k=i then c else at_ 0 t.basis k
 exact Kz (by rw [h.basis]; exact hi)):p:=h
def Ya1v (h:p:=by  rw [if_pos rfl,if_pos rfl]; grind):p:=h
def Ya1w (h:p:=by
 intro c hc;rw [F3] at hc;rcases C5.1 hc with hc|hc
 ·exact g1 c hc
 ·exact g2 c hc):p:=h
def Ya1x (h:p:=by obtain ⟨-,o',il,-⟩:=Gc hi;have:=(Ck.1 il).1;rw [Array.size_push] at this; omega):p:=h
def Ya1y (h:p:=by
 rw [hh];cases t.rows.length with
 | zero=>rfl
 | succ n=>rfl):p:=h
def Ya1z (h:p:=by have hr:=Reach.run R;rw [h0] at hr;obtain ⟨h1,h2⟩:=hs _ (h.trans hr);exact ⟨fun c hc=>h1 c dX,h2⟩):p:=h
def Ya20 (h:p:=by refine ⟨[],?_,by simp [VRs],by simp⟩;cases a <;> simp [kS,loadCells,loadCellsFrom]):p:=h
def Ya21 (h:p:=by simp only [Cd,Cg] at ho; obtain ⟨_,_,_,rfl⟩:=ho; exact ⟨_,rfl⟩):p:=h
def Ya22 (h:p:=by
 by_cases e:j=i
 ·subst e; rw [hx] at hy; simp only [A8] at hy; omega
 ·exact this.2.1 aA):p:=h
def Ya23 (h:p:=by
 have cu:¬ fn.body=none:=Za2m
 simp [execOp,e,resolve,hx,ud,Deferred.ofValue,invoke,callFunc,g1,bo,cu]):p:=h
def Ya24 (h:p:=by
 rcases Bk ae with rfl|ae
 ·exact hl
 ·exact h.rowW r ae):p:=h
def Ya25 (h:p:=by refine ⟨e.1,e.2.trans ?_⟩;rw [C7,C7];exact Mw (Gk aA) (Gk aA) (Gk h3)):p:=h
def Ya26 (h:p:=by
 have:t.rows.length<=k:=List.drop_eq_nil_iff.1 hl;rw [h.rows] at this;have e:k=m:=aA
 subst e;exact hb):p:=h
def Ya27 (h:p:=by exact IH (y,x % y) _ aF ⟨rfl,hgn,hy,hym,aB,aB,aB⟩):p:=h
def Ya28 (h:p:=by simp only [VR] at hx ⊢;obtain ⟨vs,e,hr⟩:=hx;exact ⟨vs,e,VRs.mono0 h caps vs.toList hr⟩):p:=h
def Ya29 (h:p:=by rw [k1.keep b (Ck.1 hb1).1 fun o hm=>bz.sr.own b o hm (fy o)]; exact hb1):p:=h
def Ya2a (h:p:=by simp only [VR] at hx ⊢;obtain ⟨vs,e,hr⟩:=hx;exact ⟨vs,e,VRs.mono h caps vs.toList hr⟩):p:=h
def Ya2b (h:p:=by rw [Ot i7,iY] at hj;simp [N5,h3]; simpa using hj):p:=h
def Ya2c (h:p:=by
 cases ip:o.dst with
 | none=>simp only [putT]
 | some d =>
  simp only [putT];rw [Df (fun x=>hne dA)]):p:=h
def Ya2d (h:p:=by
 obtain ⟨ex,s2⟩:=x;cases ex with
 | normal=>rfl
 | exit id=>exact absurd h (hne id s2)
 | ret=>rfl):p:=h
def Ya2e (h:p:=by simp only [VR] at hx ⊢;obtain ⟨vs,e,hr⟩:=hx;exact ⟨vs,e,VRs.mono0 h cs vs.toList hr⟩):p:=h
def Ya2f (h:p:=by rw [List.take_append,C6 aA,yo,Ol,kW,Fy]):p:=h
def Ya2g (h:p:=by simp only [VR] at hx ⊢;obtain ⟨vs,e,hr⟩:=hx;exact ⟨vs,e,VRs.mono h cs vs.toList hr⟩):p:=h
def Ya2h (h:p:=by exact ⟨Hp (v:=w) (w':=C'.w) eR (hn w C' h2 h3 (h4.trans hr.S) h5 (h6.trans hr.n) h7),rfl⟩):p:=h
def Ya2i (h:p:=by
 cases fx with
 | func g=>simp only [hfx g rfl,hxf,Bool.or_true]
 | _=>simp only [uf,Bool.or_true]):p:=h
def Ya2j (h:p:=by
 obtain ⟨ex,s2⟩:=r;cases ex with
 | normal=>exact absurd he (hne s2)
 | exit id=>rfl
 | ret=>rfl):p:=h
def Ya2k (h:p:=by
 cases fx with
 | func g=>simp only [hfx g rfl,sd,Bool.true_or]
 | _=>simp only [uf,Bool.true_or]):p:=h
def Ya2l (h:p:=by
 split at he
 ·rename_i r' s1 ho;rw [Mp (fun z hz=>Du ih aA c _ z hz) ho];exact he
 ·simp at he):p:=h
def Ya2m (h:p:=by unfold mkA;rw [hz,hs,hb,intN_cast];simp only [mkB];rw [if_pos ⟨Ce _,h,hbl,rfl⟩]):p:=h
def Ya2n (h:p:=by show Simp.Tab.mk _ _ _=Simp.Tab.mk _ _ _;exact congr (congr (congrArg Simp.Tab.mk eT) eC) eB):p:=h
def Ya2o (h:p:=by refine ⟨e.1,e.2.trans ?_⟩;rw [C7,C7];exact Kk (Gk aA) (Gk aA)):p:=h
def Ya2p (h:p:=by  exact h.rowE j q r hq ae):p:=h
def Ya2q (h:p:=by rw [<- Pj];exact Q0 (w:=intA b0) (by rw [Ag] at hb0 ⊢; rw [Cw,hb0]; rfl)):p:=h
def Ya2r (h:p:=by simp only [A8,Cg] at h; obtain ⟨-,rfl⟩:=h; exact L7.refl _):p:=h
def Ya2s (h:p:=by rw [Ft] at he;obtain ⟨e',sc,rfl⟩:=he;rw [Fj]; exact g2 e' sc):p:=h
def Ya2t (h:p:=by rename_i h'; exact absurd h' (hb _)):p:=h
def Ya2u (h:p:=by simp only [Cd,Cg] at cr;obtain ⟨cs,-,-,rfl⟩:=cr;simp):p:=h
def Ya2v (h:p:=by refine Q8 (by rw [<- lh,Z3]) jh fun e he=>?_;have:=gp e he;rw [Hz aA]; exact d8 e this):p:=h
def Ya2w (h:p:=by unfold depsOf; rw [ho];exact Ft.2 ⟨e,List.mem_filter.2 ⟨gE,hb⟩,rfl⟩):p:=h
def Ya2x (h:p:=by
 have:n.natAbs<10000 ^ 5:=aA
 exact F1 this (Nat.pow_le_pow_right aA aA)):p:=h
def Ya2y (h:p:=by simp only [Bl,D7,h1,h2,h3,h4]; rfl):p:=h
def Ya2z (h:p:=by simp only [A8,Cg] at h; obtain ⟨_,rfl⟩:=h; exact this):p:=h
def Ya30 (h:p:=by simp only [VR] at hx ⊢;obtain ⟨u,e,hr⟩:=hx;exact ⟨u,e,VR.mono0 h v u hr⟩):p:=h
def Ya31 (h:p:=by simp only [VR] at hx ⊢;obtain ⟨u,e,hr⟩:=hx;exact ⟨u,e,VR.mono h v u hr⟩):p:=h
def Ya32 (h:p:=by simp only [Cd] at h;obtain ⟨v,h,hh⟩:=h;exact quiet v h hh):p:=h
def Ya33 (h:p:=by
 have hxs:x<listed.size:=aA
 simp [Se,hxs] at h0 h1;rw [h0] at h1; cases h1):p:=h
def Ya34 (h:p:=by rw [he,Ik];exact ⟨fun h=>by simp [Bl,h],fun h=>by simp [Bl,h]⟩):p:=h
def Ya35 (h:p:=by
 split at h
 ·rename_i h'; simp only [A8] at h; rw [h',h]
 ·cases h):p:=h
def Ya36 (h:p:=by rw [Nv,h.len,iP,Ki,this];exact hv):p:=h
def Ya37 (h:p:=by exact IHA (S',n',i+1,t1,J) _ aF ⟨rfl,aE,hC,hT,bz,hcl,⟨kx,ma⟩,cn,am,aP⟩):p:=h
def Ya38 (h:p:=by rintro ⟨b,o,sz,ea,hr⟩;exact ⟨b,o,sz,ea,Da.stays h.stays b sz o es hr⟩):p:=h
def Ya39 (h:p:=by have:=dc.2.2 aA;have h2:=(hw c aA this.1).2 hlt;rw [this.2] at h2; simp at h2):p:=h
def Ya3a (h:p:=by show RK P fn (.loop c) { st with S:=cutS (Aeu c) m st.S } k=_;rw [hk.h]; rfl):p:=h
def Ya3b (h:p:=by  exact Ce _):p:=h
def Ya3c (h:p:=by have:=F8.2 cg;simp; omega):p:=h
def Ya3d (h:p:=by have e1:n.tdiv 10000=n / 10000:=Fe aA;rw [e1,Ac aC]):p:=h
def Ya3e (h:p:=by simp only [Bl,D7,h1,h2,h3]; rfl):p:=h
def Ya3f (h:p:=by rename_i x hx;rw [hx] at h2; simp only [VR] at h2; subst h2;simpa using h):p:=h
def Ya3g (h:p:=by simp only [Cg] at e;exact ⟨h0,o',il,by rw [e.1]; exact hd⟩):p:=h
def Ya3h (h:p:=by simp only [Cx.hid];rw [hle.av];exact ⟨fun h=>h.resolve_right hx,.inl⟩):p:=h
def Ya3i (h:p:=by show entAt SF _ _=_;rw [Aa (mw _ aA aA (fun _=>⟨aA,aA⟩))]; exact ak.Z):p:=h
def Ya3j (h:p:=by show nth SF j=_;rw [mw j aA aA (fun _=>⟨aA,aA⟩)]; exact ak.fr j h1 h2):p:=h
def Ya3k (h:p:=by rw [hx.2 j,hv j,hv (at_ 0 t.basis k)];rfl):p:=h
def Ya3l (h:p:=by simp [Instr.fieldAt,Bv hu,hfk,Sc,fieldPlace,Gl h2,h4,D9,h1]):p:=h
def Ya3m (h:p:=by have:l.length≠0:=fun h'=>h (C4.1 h');simp; omega):p:=h
def Ya3n (h:p:=by exact IH (S6,q+1,n') _ aF ⟨rfl,aE,a4t,tp6,ub,a4u,aG,aG,aG,aG,aG,aG⟩):p:=h
def Ya3o (h:p:=by
 by_cases e:i'=k
 ·subst e; exact ⟨aL,fun h'=>aL⟩
 ·exact b5 i' aA fv):p:=h
def Ya3p (h:p:=by rw [Rn.cost (Cl _) (Ce _) ((ha.ker x).2 hx),ha.dotC]):p:=h
def Ya3q (h:p:=by have:=Bc ab;exact List.length_eq_one_iff.1 (by simpa using this.symm)):p:=h
def Ya3r (h:p:=by rw [rt] at this; simp at this):p:=h
def Ya3s (h:p:=by
 by_cases e:i'=k
 ·subst e; exact ⟨aL,fun _=>aA⟩
 ·exact b5 i' aA fv):p:=h
def Ya3t (h:p:=by simp [method,typeInfo,h1,h2,h3,h4,follow,receiverAt,Bv h5,Place.get]):p:=h
def Ya3u (h:p:=by exact ⟨hr.defers,v,h1,v,C',rfl,rfl,hle,hr.sr,hr.S,hr.tk,hr.n,h2⟩):p:=h
def Ya3v (h:p:=by rw [Ag] at h;exact (Ix.1 (I8 h)).2):p:=h
def Ya3w (h:p:=by rw [if_pos aW] at h; exact absurd h h0):p:=h
def Ya3x (h:p:=by
 cases u with
 | nil=>simp at kt; omega
 | cons x u=>exact ⟨x,u,rfl⟩):p:=h
def Ya3y (h:p:=by
 cases U with
 | nil=>simp at d7; omega
 | cons x u=>exact ⟨x,u,rfl⟩):p:=h
def Ya3z (h:p:=by
 cases v with
 | nil=>simp at jc; omega
 | cons x v=>exact ⟨x,v,rfl⟩):p:=h
def Ya40 (h:p:=by rwa [show o+(i+1)*sz=o+sz+i*sz by rw [O7]; omega] at this):p:=h
def Ya41 (h:p:=by simp only [Bl,D7,h1,h2]; rfl):p:=h
def Ya42 (h:p:=by obtain ⟨b',o',h1,h2,-⟩:=hcells j x hx;exact ⟨b',o',h1,h2⟩):p:=h
def Ya43 (h:p:=by  simp only; show _ / ((1:Int):Rat)=_; rw [kL]; grind):p:=h
def Ya44 (h:p:=by rw [D3 e];exact ⟨.inr,fun h=>h.resolve_left fun x=>e x.symm⟩):p:=h
def Ya45 (h:p:=by  rw [ho] at this;simp only at this;rw [ek] at this; simp at this):p:=h
def Ya46 (h:p:=by rw [h0,if_pos rfl] at hE;unfold sysE;rw [if_neg uj,hE,if_pos h0]):p:=h
def Ya47 (h:p:=by have h5:=b5 i' aA fv;exact ⟨aL,fun h'=>by have:=h5.1; grind⟩):p:=h
def Ya48 (h:p:=by
 split at he
 ·rename_i r' s1 ho;rw [out ho];exact he
 ·simp at he):p:=h
def Ya49 (h:p:=by exact sum_congr fun j _=>aL):p:=h
def Ya4a (h:p:=by exact IH (P++[r0'],U,some P.length) _ aF ⟨rfl,qu,gy,hb2,aP⟩):p:=h
def Ya4b (h:p:=by have:=hf k c9 j (by rw [<- iw]; exact hj);rw [hv,hv];exact this):p:=h
def Ya4c (h:p:=by have:=Ld (r:=[]) (Gm (f:=f) (p:=p) (n:=n) (c1:=c1) (c2:=c2) (q:=q) (b:=b));exact Ya1d):p:=h
def Ya4d (h:p:=by
 refine ⟨0,?_,Ce _,fun _=>?_⟩
 ·simp only [Cx.tok,Ag]; simp
 ·exact Ya0o):p:=h
def Ya4e (h:p:=by
 by_cases e:i=k
 ·subst e;exact Ya1v
 ·rw [if_neg e,if_neg (Ih e)]; grind):p:=h
def Ya4f (h:p:=by
 cases di:o.dst with
 | none=>rw [di] at hx; exact hx
 | some d0 =>
  exact Ya07):p:=h
end Go.Proofs.YtcjffhadclngmaaGreat
