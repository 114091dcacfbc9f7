/- Part 1. -/
import Derived.KernelRfl
namespace Go.Proofs.YthelkgdmgihhiaaGreat
variable {p:Prop}
set_option linter.defProp false
def aB (h:p:=by first|rfl|simp only [getT,Fk,Cn,Cs,digC,digA]):p:=h
def aA (h:p:=by omega):p:=h
def aG (h:p:=by first|rfl|simp only [getT,Fk,Cn,Cs,Ao,Ag]):p:=h
def aE (h:p:=by first|omega|(dsimp only; omega)):p:=h
def aD (h:p:=by unfold i64; omega):p:=h
def aI (h:p:=by first|rfl|simp only [getT,Fk,Cn,Cs,strC,Ap,and_self]):p:=h
def aF (h:p:=by first|omega|(simp only; omega)):p:=h
def aC (h:p:=by simp; omega):p:=h
def aJ (h:p:=by first|rfl|simp only [getT,Fk]):p:=h
def aT (h:p:=by and_intros <;> first|rfl|simp only [getT,Fk]):p:=h
def aH (h:p:=by first|rfl|assumption):p:=h
def bD (h:p:=by first|rfl|simp only [getT,he,Fk,Cn,Cs,strC,and_self]):p:=h
def bE (h:p:=by first|rfl|simp only [getT,Fk,Cn,Cs,strC,and_self]):p:=h
def bW (h:p:=by and_intros <;> first|rfl|simp only [getT,Fk,Cn,Cs]):p:=h
def aL (h:p:=by simpa using h):p:=h
def aN (h:p:=by simpa using hlt):p:=h
def aU (h:p:=by simp only [VRs] at h):p:=h
def bF (h:p:=by simp only [tys,Oj]):p:=h
def cY (h:p:=by first|rfl|simp only [getT,Fk,Cn,Cs,and_self]):p:=h
def aM (h:p:=by kernel_rfl):p:=h
def cI (h:p:=by rw [k1,k2,k3,decide_eq_false b4]; exact Iy):p:=h
def dX (h:p:=by first|rfl|simp only [getT,hfl,Fk,Cn,Cs,and_self]):p:=h
def aO (h:p:=by simp at h):p:=h
def bQ (h:p:=by rw [List.length_set]; exact h.len):p:=h
def aV (h:p:=by simpa using h0):p:=h
def aW (h:p:=by simpa using h1):p:=h
def bI (h:p:=by simp only [execOp,e]):p:=h
def eV (h:p:=by rw [<- fu,jL x y]; exact (Nat.gcd_rec y x).symm ▸ jL y (x % y)):p:=h
def eW (h:p:=by simp only [evC,Ba,Cf] at h; obtain ⟨_,rfl⟩:=h; exact hI):p:=h
def dG (h:p:=by simp only [nth,Ba] at h; subst h; rfl):p:=h
def aX (h:p:=by decide +kernel):p:=h
def cJ (h:p:=by rw [k1,k2,k3,decide_eq_true b4]; rfl):p:=h
def bJ (h:p:=by simp only [PR] at hx):p:=h
def Za02 (h:p:=by show m<=(st.S++_).length; rw [Cm]; exact Fp hI.le (I6 _ _)):p:=h
def aY (h:p:=by simpa using la):p:=h
def aZ (h:p:=by simpa using hneg):p:=h
def bK (h:p:=by simp only [PR] at h):p:=h
def aR (h:p:=by cases h):p:=h
def aK (h:p:=by grind):p:=h
def dH (h:p:=by simp only [Er,okZ,hla,hlb]; simp [dd]; omega):p:=h
def Za09 (h:p:=by have:=t.b; simp only [Ch,Ie] at this; exact this.1):p:=h
def Za0a (h:p:=by and_intros <;> first|rfl|simp only [getT,L2,Fk,Cn,Cs]):p:=h
def aP (h:p:=by decide):p:=h
def bA (h:p:=by simpa using b1):p:=h
def bC (h:p:=by simpa using b2):p:=h
def Za0e (h:p:=by show (P++[r0]).length+U.length=t.rows.length; simp only [Cm,Ci,Cu] at dn ⊢; omega):p:=h
def Za0f (h:p:=by rw [<- hg,jL x y]; exact (Nat.gcd_rec y x).symm ▸ jL y (x % y)):p:=h
def cZ (h:p:=by rw [<- iN]; simp [hu]):p:=h
def bR (h:p:=by simp only [PRs] at h):p:=h
def bL (h:p:=by simpa using hj):p:=h
def Za0j (h:p:=by show (st.S++_).take m=S0; rw [Oh hI.le]; exact hI.S):p:=h
def dY (h:p:=by rw [Af] at hx; exact Il hx):p:=h
def Za0l (h:p:=by show (p++[y.1]).length+v.length=W; simp only [Cm,Ci,Cu] at o4 ⊢; omega):p:=h
def bM (h:p:=by simp [nth] at h):p:=h
def bG (h:p:=by simpa using b3):p:=h
def bH (h:p:=by simpa using b4):p:=h
def eX (h:p:=by rw [jL,<- Nat.gcd_rec,jL]; exact fu):p:=h
def Za0q (h:p:=by rw [Cy,iB,<- E5 (x:=r0),J8 (by simp),if_neg (fun h=>ni h.symm)]; exact b9):p:=h
def dI (h:p:=by rw [<- iN]; simp [ht]):p:=h
def eY (h:p:=by simp [execOp,e,resolve,hb,ha,invoke,builtin,qd,h1]):p:=h
def Za0u (h:p:=by and_intros <;> first|rfl|simp only [getT,Fk,Cn,Cs,digC,digA]):p:=h
def bT (h:p:=by simp only; omega):p:=h
def Za0w (h:p:=by rw [lp,hlp]; simp only [Cy,Co,Cr,F8]):p:=h
def Za0y (h:p:=by simp only [lz,hm,Fi,Hn,Cy,Co,Cr]):p:=h
def Za0z (h:p:=by simp only [vn,hm,Fi,Mx,Cy,Co,Cr]):p:=h
def dJ (h:p:=by rw [I1]; omega):p:=h
def Za11 (h:p:=by have:=t.b; simp only [Ch,Ie] at this; exact this.2):p:=h
def Za13 (h:p:=by simpa only [Cy,Co,Cr,F8] using ez):p:=h
def dZ (h:p:=by unfold B5; rw [ho]; simpa using x):p:=h
def bU (h:p:=by simp only [VR]):p:=h
def Za17 (h:p:=by unfold i64; rcases hsb with e|e <;> rw [e] <;> omega):p:=h
def Za18 (h:p:=by rw [kO]; exact Ja (PRs.stays aj _ _ j5) (PRs.stays aj _ _ bo)):p:=h
def cK (h:p:=by simp [Op.operands]):p:=h
def eZ (h:p:=by unfold topV; rw [Fx,Br]; rfl):p:=h
def cM (h:p:=by rw [k1,k2,k3]; rfl):p:=h
def Za1c (h:p:=by unfold i64; rcases je with h|h <;> rw [h] <;> omega):p:=h
def dK (h:p:=by have:=bh.iq; omega):p:=h
def bN (h:p:=by simp [hx]):p:=h
def Za1g (h:p:=by rw [<- List.map_take,<- List.map_drop]; exact Gg _):p:=h
def Za1h (h:p:=by cases b <;> simp [eqA] at h ⊢; exact ⟨h.1,M9 h.2⟩):p:=h
def cN (h:p:=by simp at hi; omega):p:=h
def bX (h:p:=by simpa using hm):p:=h
def Za1k (h:p:=by simp only [hm,Aw hy,Cy,Co,Cr]):p:=h
def Za1l (h:p:=by simp only [hm,Aw hx,Cy,Co,Cr]):p:=h
def eD (h:p:=by simp only [Cs,VRs]):p:=h
def Za1n (h:p:=by intro m' em; simp only [Ba] at em; subst em; exact hc):p:=h
def cD (h:p:=by simpa using hl):p:=h
def bY (h:p:=by simpa using cd):p:=h
def bZ (h:p:=by simpa using bu):p:=h
def cA (h:p:=by simpa using lb):p:=h
def Za1s (h:p:=by unfold L2; exact Dq (sz:=4) (f:=fun q=>ceW (qF.rat q)) (fun _=>rfl) l):p:=h
def cO (h:p:=by rw [k1,k2]; rfl):p:=h
def cE (h:p:=by simp only [VRs]):p:=h
def Za1v (h:p:=by simp only [execOp,e,F0,g1,Fs,Iu]):p:=h
def Za1w (h:p:=by rw [Af] at hy; exact Il hy):p:=h
def Za1x (h:p:=by simp only [Cm,Ci] at jm ⊢; exact jm):p:=h
def bS (h:p:=by simp [hq]):p:=h
def Za20 (h:p:=by simp only [hm,Cy,Co,Cr]):p:=h
def cF (h:p:=by simpa using h2):p:=h
def cG (h:p:=by simpa using h3):p:=h
def cH (h:p:=by simpa using eh):p:=h
def Za26 (h:p:=by cases b <;> simp [eqA] at h ⊢; exact M9 h):p:=h
def dL (h:p:=by rw [hsz]; exact ci):p:=h
def cP (h:p:=by simp only [evC]):p:=h
def bV (h:p:=by simp [wrS]):p:=h
def eE (h:p:=by rw [h.rows]; exact hi):p:=h
def cQ (h:p:=by simpa using hz):p:=h
def cR (h:p:=by simpa using iw):p:=h
def cU (h:p:=by rw [k1]; rfl):p:=h
def cV (h:p:=by simp [wrT,ao]):p:=h
def eG (h:p:=by simp only [sum]; grind):p:=h
def dA (h:p:=by simpa using hx):p:=h
def Za2m (h:p:=by simp only [Cx.tok,if_true]; exact hp):p:=h
def dB (h:p:=by simpa using hn):p:=h
def dM (h:p:=by simp at h ⊢; omega):p:=h
def fA (h:p:=by rw [hψ]; simp only; omega):p:=h
def Za2q (h:p:=by intro hh; rw [hh] at g3; simp at g3):p:=h
def eH (h:p:=by unfold evQ; rw [ho]):p:=h
def cW (h:p:=by rw [z6,hD,hg]):p:=h
def dN (h:p:=by simp [smB]; omega):p:=h
def Za2x (h:p:=by simp only [gt_iff_lt] at h; rw [h3] at h; simp at h):p:=h
def Za2y (h:p:=by simp only [Fg]; omega):p:=h
def fB (h:p:=by rw [xy] at hw; simp at hw):p:=h
def fC (h:p:=by simpa only [evC] using he):p:=h
def Za31 (h:p:=by simp only [h1,h2]; simp):p:=h
def cB (h:p:=by simp [h]):p:=h
def Za33 (h:p:=by rw [mj]; exact Dp.times _ _ ou ow):p:=h
def Za34 (h:p:=by rw [jn]; exact Dp.minus _ _ oz oy):p:=h
def Za35 (h:p:=by rw [List.length_set,List.length_set]; exact h.len):p:=h
def fD (h:p:=by simp only [h1,h2]; rfl):p:=h
def Za37 (h:p:=by rw [e] at l7; simp at l7; omega):p:=h
def Za38 (h:p:=by unfold B5 at hd; rw [ho] at hd; simpa using hd):p:=h
def fE (h:p:=by rw [ao] at hb; cases hb):p:=h
def eI (h:p:=by simp [execOp,e,hb]):p:=h
def dO (h:p:=by simp [evC] at h):p:=h
def eJ (h:p:=by rintro a ⟨⟩; rfl):p:=h
def dP (h:p:=by rw [Am]; omega):p:=h
def Za3e (h:p:=by have h:=ko.T.costE; rw [ba.2.2] at h; exact h):p:=h
def dR (h:p:=by rw [h1]; simp):p:=h
def Za3i (h:p:=by rw [Am,ko.len,ak.len]; exact Ce _):p:=h
def Za3j (h:p:=by rw [hR]; unfold ansC; rw [kR]; rfl):p:=h
def fF (h:p:=by unfold maxLen; omega):p:=h
def eK (h:p:=by rw [hx.1]; simp):p:=h
def fG (h:p:=by simp only [VRs] at hx):p:=h
def fH (h:p:=by simp [Cx.alone] at hi):p:=h
def dC (h:p:=by assumption):p:=h
def dS (h:p:=by simpa using bg):p:=h
def Za3q (h:p:=by intro f args S tk n r he; simp [evF] at he):p:=h
def dT (h:p:=by rw [Dj,h]; rfl):p:=h
def Za3s (h:p:=by simp [PRs,PR,jG]):p:=h
def Za3t (h:p:=by rw [j3]; omega):p:=h
def Za3u (h:p:=by rw [cj j h2.1,bo j h2.1]; exact au j h1 h2):p:=h
def dU (h:p:=by simpa using qj):p:=h
def dD (h:p:=by simp [roomy]):p:=h
def Za3z (h:p:=by rw [k1.av]; exact ju x o hx):p:=h
def Za40 (h:p:=by have:=Kd (Lm f4 r h); omega):p:=h
def Za41 (h:p:=by rw [F0,D5 (by simp)]; exact h1):p:=h
def fI (h:p:=by simpa [Am] using hi):p:=h
def Za43 (h:p:=by simp only [VRs]; exact ⟨h1,h2,trivial⟩):p:=h
def Za44 (h:p:=by rw [HI.out.rest]; exact Oq _ hb0):p:=h
def Za46 (h:p:=by simp only [Cr]; exact De hi):p:=h
def Za48 (h:p:=by simp [Cx.more,hr.S,hr.n]):p:=h
def Za49 (h:p:=by unfold topV; rw [Fi]; rfl):p:=h
def dV (h:p:=by rw [dn]; simp):p:=h
def Za4d (h:p:=by show t1.rows.length+1<=1000000; omega):p:=h
def dE (h:p:=by rw [fm,x]):p:=h
def Za4f (h:p:=by rw [lF hbel (Gx hv)]; exact hv):p:=h
def Za4g (h:p:=by simp only [oneOf,VR]; exact ⟨_,rfl,h2⟩):p:=h
def fJ (h:p:=by simp [conf,di,dv]):p:=h
def fK (h:p:=by simpa using hs.h2):p:=h
def fL (h:p:=by simpa using hq.symm):p:=h
def Za4k (h:p:=by unfold L2; rw [Fg]; omega):p:=h
def fM (h:p:=by rw [hw]; exact hc):p:=h
def fN (h:p:=by have:=l2 r h; omega):p:=h
def eM (h:p:=by simpa using hpq):p:=h
def Za4o (h:p:=by have:=Ej.1 sw.symm; omega):p:=h
def eP (h:p:=by rw [Dj,hx]; rfl):p:=h
def Za4q (h:p:=by rw [setRow_other _ _ _ _ h]; exact hd):p:=h
def Za4r (h:p:=by simp [Cx.tok] at hi; simp [Jj]; omega):p:=h
def Za4s (h:p:=by simp [Op.operands,Call.operands,ao]):p:=h
def Za4t (h:p:=by have h:=f7; rw [ba.2.2] at h; exact h):p:=h
def dF (h:p:=by simp [h1]):p:=h
def eQ (h:p:=by simpa using hu):p:=h
def Za4w (h:p:=by rw [Array.toList_map]; exact Mi hρ _):p:=h
def fO (h:p:=by simpa using hs.h):p:=h
def Za4y (h:p:=by rintro ⟨a,b,c⟩ ⟨⟩; rfl):p:=h
def fP (h:p:=by simp at h; omega):p:=h
def Za50 (h:p:=by simp only at dj; omega):p:=h
def Za51 (h:p:=by rw [<- ba]; exact h1.1):p:=h
def cX (h:p:=by simp [h0]):p:=h
def eR (h:p:=by simpa using g2):p:=h
def Za54 (h:p:=by unfold B5; rw [ho]; simpa using e):p:=h
def Za55 (h:p:=by rw [Ov]; omega):p:=h
def Za56 (h:p:=by rw [h.cost]; exact hc):p:=h
def Za57 (h:p:=by rw [h.rows]; exact l6):p:=h
def fQ (h:p:=by simp [Kw,e] at hm):p:=h
def fR (h:p:=by rw [hx.2]; simp):p:=h
def Za5a (h:p:=by rw [k1.av]; exact eg o):p:=h
def Za5b (h:p:=by rintro ⟨a,b⟩ ⟨⟩; rfl):p:=h
def Za5c (h:p:=by simpa [roomy] using h1):p:=h
def fT (h:p:=by simp [over] at h):p:=h
def fU (h:p:=by simpa using hi):p:=h
def fV (h:p:=by simp [R5]; omega):p:=h
def fW (h:p:=by rw [h.cost,dl]):p:=h
def fX (h:p:=by simpa using hb):p:=h
def Za5i (h:p:=by simp [Cx.more,hr.n]):p:=h
def Za5j (h:p:=by cases t <;> simp [br]):p:=h
def Za5k (h:p:=by have:=gA.pos; omega):p:=h
def fY (h:p:=by simpa using ho):p:=h
def Za5m (h:p:=by rw [Ab mb]; exact pp):p:=h
def dW (h:p:=by simp at hl):p:=h
def fZ (h:p:=by simpa using b6):p:=h
def eU (h:p:=by simp [h.len]):p:=h
def gC (h:p:=by simp [C0] at hi):p:=h
def gD (h:p:=by split <;> grind):p:=h
def gE (h:p:=by rw [Dj,hc]; rfl):p:=h
def gF (h:p:=by rw [Dj,hy]; rfl):p:=h
def gG (h:p:=by rw [h2]; simp):p:=h
def Za5v (h:p:=by have:=Ej.1 e; omega):p:=h
def gH (h:p:=by simpa using he):p:=h
def Za5x (h:p:=by rw [e1]; exact hrun):p:=h
def Za5y (h:p:=by have:=du.1; omega):p:=h
def Za5z (h:p:=by have:=g2.1; omega):p:=h
def Za60 (h:p:=by simp [Op.bytesLess]):p:=h
def Za61 (h:p:=by rw [Ak]; exact h.nb):p:=h
def Za62 (h:p:=by rw [Af]; exact hi):p:=h
def Za63 (h:p:=by rw [ro,oh]; omega):p:=h
def gI (h:p:=by simp [wrS,ao]):p:=h
def gJ (h:p:=by simpa using ja):p:=h
def gK (h:p:=by simpa using ha):p:=h
def gL (h:p:=by simpa using g1):p:=h
def gN (h:p:=by simpa using ca):p:=h
def gP (h:p:=by simpa using cb):p:=h
def gQ (h:p:=by simpa using cw):p:=h
def gR (h:p:=by simpa using j6):p:=h
def gS (h:p:=by simpa using z7):p:=h
def gU (h:p:=by simpa using ku):p:=h
def gV (h:p:=by simpa using hq):p:=h
def Za6f (h:p:=by rw [hψ]; exact h1):p:=h
def Za6g (h:p:=by simp +contextual):p:=h
def gX (h:p:=by rw [hy]; rfl):p:=h
def gY (h:p:=by rw [ur,hw]):p:=h
def aS (h:p:=by rw [Aa aD]; omega):p:=h
def aQ (h:p:=by rw [Aa aD]; rfl):p:=h
def cC (h:p:=by rw [F7 aA]; rfl):p:=h
def Za6m (h:p:=by simp only [Ba,Cf] at h; obtain ⟨rfl,rfl⟩:=h; exact ⟨rfl,Za3t,oy⟩):p:=h
def bP (h:p:=by rw [Aa aD]; simp):p:=h
def Za6o (h:p:=by simp only [Ba,Cf] at h; obtain ⟨rfl,rfl⟩:=h; exact ⟨rfl,Za3t,ol⟩):p:=h
def Za6p (h:p:=by by_cases e:j=n - 1; (· rw [e,hx,hy,ja]); exact pg j aE):p:=h
def Za6q (h:p:=by rw [key j aA]; exact h.fr j h1 h2):p:=h
def Za6r (h:p:=by rw [Ae aE,cj j h2.1,bo j h2.1]; exact au j h1 h2):p:=h
def Za6s (h:p:=by rw [bm]; first|rfl|exact A7 dK):p:=h
def Za6t (h:p:=by rw [Ab (key _ aA)]; exact h.E15):p:=h
def Za6u (h:p:=by simp only [first]; rw [if_neg aA,if_neg aA]):p:=h
def Za6v (h:p:=by rw [Ab (key _ aA)]; exact h.Z):p:=h
def Za6w (h:p:=by rw [Ab (gh Sf.length (hoN 0 aA))]; exact Bk):p:=h
def Za6x (h:p:=by rw [Ab (gh _ (p7 _ aA aA))]; exact Ad hEf):p:=h
def Za6y (h:p:=by rw [h'] at this; exact absurd this aK):p:=h
def gZ (h:p:=by rw [hn,if_neg Za31]):p:=h
def Ya0 (h:p:=by
 subst hM;refine Ada (P:=prog) (fun x st=>st.T.length=56/\(x.1.gcd x.2=g)/\(x.1<9223372036854775808)/\(x.2<9223372036854775808)/\getT st.T 0=.ref iq eq 0/\getT st.T 1=.int (M:Int)/\getT st.T 2=.int (D:Nat)/\getT st.T 6=.ref S.length k 0/\getT st.T 7=.int (x.1:Nat)/\getT st.T 8=.int (x.2:Nat)/\st.S=S++[⟨k,[.int 0,.int 0]⟩]/\st.tk=tk/\st.n=k+1) (fun x=>x.2) (fun x=>(frA r.1,QQ.flS S iq eq r.2,tk,k+1)) ((M:Int).natAbs,D) ?_ ?_;case refine_2=>exact ⟨rfl,cW,aA,aA,rfl,rfl,rfl,rfl,rfl,rfl,rfl,rfl,rfl⟩
 rintro ⟨x,y⟩ ⟨T,S',tk',n'⟩ ⟨hl,fu,hx,hy,e0,e1,e2,e6,e7,e8,eS,eT,eN⟩ IH;simp only at fu hx hy e0 e1 e2 e6 e7 e8 eS eT eN;subst eS eT eN;obtain ⟨g,hg,hT⟩:=Ar hl;rw [hg] at e0 e1 e2 e6 e7 e8;subst hT;clear hg hl;by_cases h0:y=0
 ·subst h0;have c1:(((0:Nat):Int) != 0)=false:=rfl;rw [Nd] at fu;subst fu;by_cases h1:1<x
  ·rw [if_pos h1,if_pos h1] at ae;have c2:decide ((x:Int) > 1)=true:=aC
   have hz:¬ ((x:Int)=0):=aA
   have v1:=A8 (M:Int) x;have v2:=A8 (D:Int) x;have w5:Cd.wrap ((M:Int).tdiv (x:Int))=(M:Int).tdiv (x:Int):=Aa aD;have w6:Cd.wrap ((D:Int).tdiv (x:Int))=(D:Int).tdiv (x:Int):=Aa aD;by_cases b1:(M:Int).tdiv (x:Int)<=-2147483648
   ·have k1:decide ((M:Int).tdiv (x:Int)<=-2147483648)=true:=bA
    rw [if_pos cU] at ae;rw [ae];simp (maxSteps:=10^6)+contextual(disch:=try exact dqd)only[evs0,simprocAttr,Ca,Bm,Cb,results223,e0,e1,e2,e6,e7,e8,c1,c2,hz,w5,w6,cl,hE,hP,hT,hA,k1,frA,Bd]
   have k1:decide ((M:Int).tdiv (x:Int)<=-2147483648)=false:=bA
   by_cases b2:(M:Int).tdiv (x:Int) >= 2147483648
   ·have k2:decide ((M:Int).tdiv (x:Int) >= 2147483648)=true:=bC
    rw [if_pos cO] at ae;rw [ae];simp (maxSteps:=10^6)+contextual(disch:=try exact dqd)only[evs0,simprocAttr,Ca,Bm,Cb,results223,e0,e1,e2,e6,e7,e8,c1,c2,hz,w5,w6,cl,hE,hP,hT,hA,k1,k2,frA,Bd]
   have k2:decide ((M:Int).tdiv (x:Int) >= 2147483648)=false:=bC
   by_cases b3:(D:Int).tdiv (x:Int) >= 2147483648
   ·have k3:decide ((D:Int).tdiv (x:Int) >= 2147483648)=true:=bG
    rw [if_pos cM] at ae;rw [ae];simp (maxSteps:=10^6)+contextual(disch:=try exact dqd)only[evs0,simprocAttr,Ca,Bm,Cb,results223,e0,e1,e2,e6,e7,e8,c1,c2,hz,w5,w6,cl,hE,hP,hT,hA,k1,k2,k3,frA,Bd]
   have k3:decide ((D:Int).tdiv (x:Int) >= 2147483648)=false:=bG
   by_cases b4:(D:Int).tdiv (x:Int)=0
   ·have k4:((D:Int).tdiv (x:Int) == 0)=true:=bH
    rw [if_pos cJ] at ae;rw [ae];simp (maxSteps:=10^6)+contextual(disch:=try exact dqd)only[evs0,simprocAttr,Ca,Bm,Cb,results223,e0,e1,e2,e6,e7,e8,c1,c2,hz,w5,w6,cl,hE,hP,hT,hA,k1,k2,k3,k4,frA,Bd]
   have k4:((D:Int).tdiv (x:Int) == 0)=false:=bH
   rw [if_neg cI] at ae;rw [ae];simp (maxSteps:=10^6)+contextual(disch:=try exact dqd)only[evs0,simprocAttr,Ca,Bm,Cb,results223,e0,e1,e2,e6,e7,e8,c1,c2,hz,w5,w6,cl,k1,k2,k3,k4,frA,Gn]
  ·rw [if_neg h1,if_neg h1] at ae;have c2:decide ((x:Int) > 1)=false:=aC
   by_cases b1:(M:Int)<=-2147483648
   ·have k1:decide ((M:Int)<=-2147483648)=true:=bA
    rw [if_pos cU] at ae;rw [ae];simp (maxSteps:=10^6)+contextual(disch:=try exact dqd)only[evs0,simprocAttr,Ca,Bm,Cb,results223,e0,e1,e2,e6,e7,e8,c1,c2,cl,hE,hP,hT,hA,k1,frA,Bd]
   have k1:decide ((M:Int)<=-2147483648)=false:=bA
   by_cases b2:(M:Int) >= 2147483648
   ·have k2:decide ((M:Int) >= 2147483648)=true:=bC
    rw [if_pos cO] at ae;rw [ae];simp (maxSteps:=10^6)+contextual(disch:=try exact dqd)only[evs0,simprocAttr,Ca,Bm,Cb,results223,e0,e1,e2,e6,e7,e8,c1,c2,cl,hE,hP,hT,hA,k1,k2,frA,Bd]
   have k2:decide ((M:Int) >= 2147483648)=false:=bC
   by_cases b3:(D:Int) >= 2147483648
   ·have k3:decide ((D:Int) >= 2147483648)=true:=bG
    rw [if_pos cM] at ae;rw [ae];simp (maxSteps:=10^6)+contextual(disch:=try exact dqd)only[evs0,simprocAttr,Ca,Bm,Cb,results223,e0,e1,e2,e6,e7,e8,c1,c2,cl,hE,hP,hT,hA,k1,k2,k3,frA,Bd]
   have k3:decide ((D:Int) >= 2147483648)=false:=bG
   by_cases b4:(D:Int)=0
   ·have k4:((D:Int) == 0)=true:=bH
    rw [if_pos cJ] at ae;rw [ae];simp (maxSteps:=10^6)+contextual(disch:=try exact dqd)only[evs0,simprocAttr,Ca,Bm,Cb,results223,e0,e1,e2,e6,e7,e8,c1,c2,cl,hE,hP,hT,hA,k1,k2,k3,k4,frA,Bd]
   have k4:((D:Int) == 0)=false:=bH
   rw [if_neg cI] at ae;rw [ae];simp (maxSteps:=10^6)+contextual(disch:=try exact dqd)only[evs0,simprocAttr,Ca,Bm,Cb,results223,e0,e1,e2,e6,e7,e8,c1,c2,cl,k1,k2,k3,k4,frA,Gn]
 ·have c1:((y:Int) != 0)=true:=aV
  have hz:¬ ((y:Int)=0):=aA
  have hm:(x:Int).tmod (y:Int)=((x % y:Nat):Int):=cC
  simp (maxSteps:=10^6)+contextual(disch:=try exact dqd)only[evs0,simprocAttr,Ca,Bm,Cb,results223,e0,e1,e2,e6,e7,e8,c1,hz,hm];have hlt:=Oq x (by omega:0<y);exact IH (y,x % y) _ aF ⟨rfl,eV,hy,aE,aT⟩):p:=h
def Ya1 (h:p:=by
 by_cases b3:(D:Int).tdiv (x:Int) >= 2147483648
 ·have k3:decide ((D:Int).tdiv (x:Int) >= 2147483648)=true:=bG
  rw [if_pos cM] at ae;rw [ae];simp (maxSteps:=10^6)+contextual(disch:=try exact dqd)only[evs0,simprocAttr,Ca,Bm,Cb,results223,e0,e1,e2,e6,e7,e8,c1,c2,hz,w5,w6,cl,hE,hP,hT,hA,k1,k2,k3,frA,Bd]
 have k3:decide ((D:Int).tdiv (x:Int) >= 2147483648)=false:=bG
 by_cases b4:(D:Int).tdiv (x:Int)=0
 ·have k4:((D:Int).tdiv (x:Int) == 0)=true:=bH
  rw [if_pos cJ] at ae;rw [ae];simp (maxSteps:=10^6)+contextual(disch:=try exact dqd)only[evs0,simprocAttr,Ca,Bm,Cb,results223,e0,e1,e2,e6,e7,e8,c1,c2,hz,w5,w6,cl,hE,hP,hT,hA,k1,k2,k3,k4,frA,Bd]
 have k4:((D:Int).tdiv (x:Int) == 0)=false:=bH
 rw [if_neg cI] at ae;rw [ae];simp (maxSteps:=10^6)+contextual(disch:=try exact dqd)only[evs0,simprocAttr,Ca,Bm,Cb,results223,e0,e1,e2,e6,e7,e8,c1,c2,hz,w5,w6,cl,k1,k2,k3,k4,frA,Gn]):p:=h
def Ya2 (h:p:=by
 by_cases b3:(D:Int) >= 2147483648
 ·have k3:decide ((D:Int) >= 2147483648)=true:=bG
  rw [if_pos cM] at ae;rw [ae];simp (maxSteps:=10^6)+contextual(disch:=try exact dqd)only[evs0,simprocAttr,Ca,Bm,Cb,results223,e0,e1,e2,e6,e7,e8,c1,c2,cl,hE,hP,hT,hA,k1,k2,k3,frA,Bd]
 have k3:decide ((D:Int) >= 2147483648)=false:=bG
 by_cases b4:(D:Int)=0
 ·have k4:((D:Int) == 0)=true:=bH
  rw [if_pos cJ] at ae;rw [ae];simp (maxSteps:=10^6)+contextual(disch:=try exact dqd)only[evs0,simprocAttr,Ca,Bm,Cb,results223,e0,e1,e2,e6,e7,e8,c1,c2,cl,hE,hP,hT,hA,k1,k2,k3,k4,frA,Bd]
 have k4:((D:Int) == 0)=false:=bH
 rw [if_neg cI] at ae;rw [ae];simp (maxSteps:=10^6)+contextual(disch:=try exact dqd)only[evs0,simprocAttr,Ca,Bm,Cb,results223,e0,e1,e2,e6,e7,e8,c1,c2,cl,k1,k2,k3,k4,frA,Gn]):p:=h
def Ya3 (h:p:=by
 simp (maxSteps:=10^6)+contextual(disch:=try exact dqd)only[ev0,simprocAttr,Ca,Bm,Cb,results54,d0',q0];refine loop1 (P:=prog) (fun x st=>st.T.length=25/\(x.1<=n.natAbs)/\(x.2.1++dig x.1=dig n.natAbs)/\(Be st.tk x.2.2 1=true)/\getT st.T 0=.int n/\getT st.T 2=.ref 0 0 0/\getT st.T 3=.prim (.int .u64 (x.1:Nat))/\getT st.T 4=.frz (x.2.1.map digC) x.2.2/\st.S=[⟨0,[.bool false,.frz [] .nilc]⟩]) (fun x=>x.1) (fun x=>zA n) (n.natAbs,[],.nilc) ?_ ?_;case refine_2=>exact ⟨rfl,Ce _,rfl,rfl,rfl,rfl,rfl,rfl,rfl⟩
 rintro ⟨u,out,c⟩ ⟨T,S',tk',n'⟩ ⟨hl,hu,he,ab,e0,e2,e3,e4,eS⟩ IH;simp only at hu he ab e0 e2 e3 e4 eS;subst eS;obtain ⟨g,hg,hT⟩:=Ar hl;rw [hg] at e0 e2 e3 e4;subst hT;clear hg hl;have hlen:=Al9 he hN;have hr:=Dv out;have am:=Bi ab;by_cases h0:u=0
 ·have d1:decide ((u:Int) > 0)=false:=aC
  subst h0;have hd:=Adl he;subst hd;cases d2:decide (n<0) with
  | true =>
   simp (maxSteps:=10^6)+contextual(disch:=try exact dqd)only[ev0,simprocAttr,Ca,Bm,Cb,results54,e0,e2,e3,e4,d1,d2];simp [zA,bigA,digA,d2]
  | false =>
   simp (maxSteps:=10^6)+contextual(disch:=try exact dqd)only[ev0,simprocAttr,Ca,Bm,Cb,results54,e0,e2,e3,e4,d1,d2];simp [zA,bigA,digA,d2]
 ·have d1:decide ((u:Int) > 0)=true:=aC
  have ft:¬ ((10000:Int)=0):=aA
  have ci:(out.map digC).length+1<=1048576:=aC
  have q1:(u:Int).tmod 10000=((u % 10000:Nat):Int):=by
   rw [F7 aA]; omega
  have q2:Cd.wrap ((u % 10000:Nat):Int)=((u % 10000:Nat):Int):=Aa aD;have q3:kF.wrap ((u:Int).tdiv 10000)=((u / 10000:Nat):Int):=by
   rw [Cz aA,Zb aA aA]; omega
  have hs:=Adm he h0;simp (maxSteps:=10^6)+contextual(disch:=try exact dqd)only[ev0,simprocAttr,Ca,Bm,Cb,results54,e0,e2,e3,e4,d1,ft,q1,q2,q3,hr];exact IH (u / 10000,out++[((u % 10000:Nat):Int)],Az tk' c 1) _ aF ⟨rfl,aE,hs,am,aB,aB,aB,aB,aB⟩):p:=h
def Ya4 (h:p:=by
 subst hM;refine loop1 (P:=prog) (fun x st=>st.T.length=34/\(x.1.gcd x.2=g)/\(x.1<=100000000000000000)/\(x.2<=100000000000000000)/\getT st.T 0=.int (M:Int)/\getT st.T 1=.int (D:Nat)/\getT st.T 4=.ref 0 0 0/\getT st.T 5=.int (x.1:Nat)/\getT st.T 6=.int (x.2:Nat)/\st.S=[⟨0,[.prim (.bool false),.frz [] .nilc,.prim (.bool false),.frz [] .nilc]⟩]) (fun x=>x.2) (fun x=>.agg (ceW res)) ((M:Int).natAbs,D) ?_ ?_;case refine_2=>exact ⟨rfl,cW,aA,aA,rfl,rfl,rfl,rfl,rfl,rfl⟩
 rintro ⟨x,y⟩ ⟨T,S',tk',n'⟩ ⟨hl,fu,hx,hy,e0,e1,e4,e5,e6,eS⟩ IH;simp only at fu hx hy e0 e1 e4 e5 e6 eS;subst eS;obtain ⟨g,hg,hT⟩:=Ar hl;rw [hg] at e0 e1 e4 e5 e6;subst hT;clear hg hl;by_cases h0:y=0
 ·subst h0;have c1:(((0:Nat):Int) != 0)=false:=rfl;rw [Nd] at fu;subst fu;have hz:¬ ((x:Int)=0):=aA
  have v1:=A8 (M:Int) x;have v2:=A8 (D:Int) x;have w5:Cd.wrap ((M:Int).tdiv (x:Int))=(M:Int).tdiv (x:Int):=Aa aD;have w6:Cd.wrap ((D:Int).tdiv (x:Int))=(D:Int).tdiv (x:Int):=Aa aD;have hA S tk k:=N5 S tk k ((M:Int).tdiv (x:Int)) aD;have hB S tk k:=N5 S tk k ((D:Int).tdiv (x:Int)) aD;simp only [zA,bigA,digA] at hA hB;simp (maxSteps:=10^6)+contextual(disch:=try exact dqd)only[ev1,simprocAttr,Ca,Bm,Cb,results167,e0,e1,e4,e5,e6,c1,hz,w5,w6,hA,hB,xF];rw [hr];rfl
 ·have c1:((y:Int) != 0)=true:=aC
  have hz:¬ ((y:Int)=0):=aA
  have hm:Cd.wrap ((x:Int).tmod (y:Int))=((x % y:Nat):Int):=by
   have h1:(x:Int).tmod (y:Int)=((x % y:Nat):Int):=cC
   have h2:x % y<y:=Oq _ aA;rw [h1,Aa aD]
  have hlt:x % y<y:=Oq _ aA;simp (maxSteps:=10^6)+contextual(disch:=try exact dqd)only[ev1,simprocAttr,Ca,Bm,Cb,results167,e0,e1,e4,e5,e6,c1,hz,hm];exact IH (y,x % y) _ aF ⟨rfl,eX,aE,aE,aJ,aJ,aJ,aJ,aJ,aJ⟩):p:=h
def Ya5 (h:p:=by
 obtain ⟨y,hy⟩:∃ y,y=qF.minus a0 r0:=⟨_,rfl⟩;have oy:qF.ok y.1:=by rw [hy]; exact Dp.minus _ _ oa0 or0
 rw [aj,<- hy] at lp;have s6:Cd.wrap ((p.length:Int)+1)=(((p++[y.1]).length:Nat):Int):=bP
 have eo:=ak.T.fa;have f7:=ak.T.costE;have tn:entAt S' (S.length+2) I.ec=some (flat ga0 (p++a0 :: v)):=Za4t
 have qd:=Aq (ce:=ga0) ga1 (D9 (p:=p) (u:=v) (x:=a0));have hrt:=Aq (ce:=ga0) ga1 cq;have ff:=ak.E16;have ek:=Nc S' tk' n' iq eq _ a0 r0 oa0 or0 eo;have hg1:=Es (c:=y.2) eo;rw [<- hy] at ek;obtain ⟨S1a,mh⟩:∃ S1a,S1a=flS S' iq eq y.2:=⟨_,rfl⟩;have ko:=ak.flag (S':=flS S' iq eq y.2) (fun j hj=>ga6 hj) Bp eo.fS;rw [<- mh] at ek hg1 ko;have tp:entAt S1a (S.length+2) I.ec=some (flat ga0 (p++a0 :: v)):=Za3e
 have ho:=Bl (ce:=ga0) ga1 (l:=p++a0 :: v) (k:=p.length) (q':=y.1) (by simp);rw [E5] at ho;have ez:=ko.cost (k':=p++y.1 :: v) (by simp) (fun q hq=>by
  rcases C3.1 hq with h|h
  ·exact ak.T.okc q cB
  ·rcases C4.1 h with rfl|h
   ·exact oy
   ·exact ak.T.okc q cB)
 rw [ba.2.2] at ez;have js:∀ x,Oe S'.length (put S1a (S.length+2) x)=put S1a (S.length+2) x:=fun x=>Fc Za3i;simp (maxSteps:=10^6)+contextual(disch:=try exact dqd)only[evg1,simprocAttr,Ca,Bm,Cb,ga29,e0,e1,e2,e7,e10,e11,e12,e14,e15,e16,e18,e19,e83,e84,e85,e194,e195,c2,c6,c7,c7b,s6,tl,lq,tn,qd,hrt,ff,hpW,ek,hg1,tp,ho,js,Ge,xfs,puQ,tkQ,ga1,ga5];exact IH (put S1a (S.length+2) ⟨I.ec,flat ga0 (p++y.1 :: v)⟩,n'+ua4,p++[y.1],v,Ck fq y.2) _ aF ⟨rfl,Za0w,Za0l,Za13,bW⟩):p:=h
def Ya6 (h:p:=by
 have c1:((y:Int) != 0)=true:=aC
 have hz:¬ ((y:Int)=0):=aA
 have hm:Cd.wrap ((x:Int).tmod (y:Int))=((x % y:Nat):Int):=by
  have h1:(x:Int).tmod (y:Int)=((x % y:Nat):Int):=cC
  have h2:x % y<y:=Oq _ aA;rw [h1,Aa aD]
 have hlt:x % y<y:=Oq _ aA;simp (maxSteps:=10^6)+contextual(disch:=try exact dqd)only[ev1,simprocAttr,Ca,Bm,Cb,results167,e0,e1,e4,e5,e6,c1,hz,hm];exact IH (y,x % y) _ aF ⟨rfl,eX,aE,aE,aJ,aJ,aJ,aJ,aJ,aJ⟩):p:=h
def Ya7 (h:p:=by
 have c1:((y:Int) != 0)=true:=aV
 have hz:¬ ((y:Int)=0):=aA
 have hm:(x:Int).tmod (y:Int)=((x % y:Nat):Int):=cC
 simp (maxSteps:=10^6)+contextual(disch:=try exact dqd)only[evs0,simprocAttr,Ca,Bm,Cb,results223,e0,e1,e2,e6,e7,e8,c1,hz,hm];have hlt:=Oq x (by omega:0<y);exact IH (y,x % y) _ aF ⟨rfl,eV,hy,aE,aT⟩):p:=h
def Ya8 (h:p:=by
 subst eS;obtain ⟨g,hg,hT⟩:=Ar hl;rw [hg] at e33 e34 e35;subst hT;clear hg hl;by_cases hlt:i<l.length
 ·have d1:decide ((i:Int)<(l.length:Int))=true:=aN
  obtain ⟨x,hx⟩:=Ac hlt;have hx':=B0 hx;have hw:=A4 (i:=i) aA;rw [Aw hx] at hn;simp only [allD] at hn;simp (maxSteps:=10^6)+contextual(disch:=try exact dqd)only[ev0,simprocAttr,Ca,Bm,Cb,results51,e33,e34,e35,d1,digA,hx',hw];refine ⟨fun h1=>?_,fun h1=>⟨fun h2=>?_,fun h2=>?_⟩⟩
  ·rw [hn,if_pos dF]
  ·rw [hn,if_pos fD]
  ·exact IH (i+1) _ aF ⟨rfl,hlt,gZ,aB,aB,aB,aB⟩
 ·have d1:decide ((i:Int)<(l.length:Int))=false:=aN
  have he:i=l.length:=aA
  rw [he,Fi] at hn;simp (maxSteps:=10^6)+contextual(disch:=try exact dqd)only[ev0,simprocAttr,Ca,Bm,Cb,results51,e33,e34,e35,d1,digA];exact hn.symm):p:=h
def Ya9 (h:p:=by
 subst eS;obtain ⟨g,hg,hT⟩:=Ar hl;rw [hg] at e1 e3 e4;subst hT;clear hg hl;by_cases hlt:i<l.length
 ·have d1:decide ((i:Int)<(l.length:Int))=true:=aN
  obtain ⟨x,hx⟩:=Ac hlt;have hx':=B0 hx;have hw:=A4 (i:=i) aA;rw [Aw hx] at hn;simp only [allD] at hn;simp (maxSteps:=10^6)+contextual(disch:=try exact dqd)only[ev0,simprocAttr,Ca,Bm,Cb,results198,e1,e3,e4,d1,digA,hx',hw];refine ⟨fun h1=>?_,fun h1=>⟨fun h2=>?_,fun h2=>?_⟩⟩
  ·rw [hn,if_pos dF]
  ·rw [hn,if_pos fD]
  ·exact IH (i+1) _ aF ⟨rfl,hlt,gZ,aB,aB,aB,aB⟩
 ·have d1:decide ((i:Int)<(l.length:Int))=false:=aN
  have he:i=l.length:=aA
  rw [he,Fi] at hn;simp (maxSteps:=10^6)+contextual(disch:=try exact dqd)only[ev0,simprocAttr,Ca,Bm,Cb,results198,e1,e3,e4,d1,digA];exact hn.symm):p:=h
def Yaa (h:p:=by have hB S tk k:=N5 S tk k ((D:Int).tdiv (x:Int)) aD;simp only [zA,bigA,digA] at hA hB;simp (maxSteps:=10^6)+contextual(disch:=try exact dqd)only[ev1,simprocAttr,Ca,Bm,Cb,results167,e0,e1,e4,e5,e6,c1,hz,w5,w6,hA,hB,xF];rw [hr];rfl):p:=h
def Yab (h:p:=by
 have hsz:(ini.toArray.push o).size=ini.toArray.size+1:=by simp
 rw [hsz];have a0z:Sp (ini.toArray.size+1) false=(Sp ini.toArray.size false).push false:=by
  rw [Array.replicate_succ]
 rw [a0z];refine Aen hg (fun j hj=>?_) (fun e he=>?_) (fun i o' fk=>?_) _ _ _ _ (by simp) (fun j hj=>?_) hw
 ·have:=cr j bL;rw [qu]; simpa using this
 ·have:=hla e (by rw [qu] at he; simpa using he);simpa using this
 ·have b6:=(Cj.1 fk).1;have:=hde i fZ;rw [fk] at this;refine ⟨fun e he=>this.1 e he,fun g w hgw=>?_⟩;have h3:=this.2;simp only [hgw] at h3;simpa using h3
 ·rw [Fz,Array.getElem?_replicate] at hj;split at hj <;> simp at hj):p:=h
def Yac (h:p:=by
 by_cases ab:Bx st a=true
 ·simp only [ab,if_true];constructor
  ·rintro ⟨n,h⟩;split at h
   ·rename_i s1 h1;have e:@evOs (gM (mdOf a)) P (Jn (mdOf a) P (cL P)) a a st=some s1:=Bz (G:=gM _) (Ahc n).pure h1;rw [e];simp only [Cc] at h ⊢;obtain ⟨s,h1,h2⟩:=h;exact ⟨s,Bz (Ahc n) h1,h2⟩
   ·simp at h
  ·intro h;split at h
   ·rename_i s1 h1;simp only [Cc] at h;obtain ⟨s,h2,h3⟩:=h;obtain ⟨n,hn⟩:=Ac2 h1;obtain ⟨m,hm⟩:=Ac1 h2;refine ⟨max n m,?_⟩;rw [Bz (G:=gM _) (Ek (show n<=max n m by omega)).pure hn];simp only [Cc];exact ⟨s,Bz (Ek (show m<=max n m by omega)) hm,h3⟩
   ·simp at h
 ·simp [ab]):p:=h
def Yad (h:p:=by
 have d9:p.length=W:=jj;refine ak.T.add (b:=c+i) (f:=fb) ?_ ?_ hbF ?_ (by show rowZ.length=p.length; omega) orowZ (fun q hq=>?_) ?_ (ak.T.fa.of (kr iq aA aA (fun _=>⟨aA,aA⟩))) hAp Za4d (by show c+i<p.length; omega)
 ·rw [ba.1,ba.2.1,htF,y3]; simp only [ba.2.2,d9,cr,j1,gm,intA]
 ·rw [hrF]; simp only [d9]
 ·rw [Ab (kr (L+1) aA aA (fun h=>⟨by have:=ak.low.ir (hne h); omega,by have:=ak.low.ib (hne h); omega⟩))]; exact ak.E16
 ·have cl:=ak.T.ap.row q hq;have hq2:=ak.low.row q hq;exact kr q.1 aA (by have:=j2.2.2 q hq; omega) (fun _=>⟨cl.2.1,cl.2.2.2.1⟩)
 ·exact kr _ (by have:=ak.low.ic; omega) aA (fun _=>⟨ak.T.ap.rc.symm,ak.T.ap.cb⟩)):p:=h
def Yae (h:p:=by
 refine ⟨fun h1=>?_,fun h1=>⟨fun h2=>?_,fun h2=>⟨fun h3=>?_,fun h3=>?_⟩⟩⟩
 ·rw [if_pos h1] at hm;exact IH (i+1,j,o++[x],Az tk' c 2) _ aF ⟨rfl,aE,hj,aC,am,Za1k,aG,aG,aG,aG,aG,aG,aG⟩
 ·rw [if_neg dR,if_pos h2] at hm;exact IH (i,j+1,o++[y],Az tk' c 2) _ aF ⟨rfl,hi,aE,aC,am,Za1l,aG,aG,aG,aG,aG,aG,aG⟩
 ·have xr:¬ x.2+y.2=0:=cG
  rw [if_neg dR,if_neg gG,if_neg xr] at hm;exact IH (i+1,j+1,o++[(x.1,x.2+y.2)],Az tk' c 2) _ aF ⟨rfl,aE,aE,aC,am,Za20,aG,aG,aG,aG,aG,aG,aG⟩
 ·have xr:x.2+y.2=0:=cG
  rw [if_neg dR,if_neg gG,if_pos xr] at hm;exact IH (i+1,j+1,o,c) _ aF ⟨rfl,aE,aE,aE,ab,hm,aG,aG,aG,aG,aG,aG,aG⟩):p:=h
def Yaf (h:p:=by rw [if_pos cO] at ae;rw [ae];simp (maxSteps:=10^6)+contextual(disch:=try exact dqd)only[evs0,simprocAttr,Ca,Bm,Cb,results223,e0,e1,e2,e6,e7,e8,c1,c2,hz,w5,w6,cl,hE,hP,hT,hA,k1,k2,frA,Bd]):p:=h
def Yag (h:p:=by rw [if_pos cU] at ae;rw [ae];simp (maxSteps:=10^6)+contextual(disch:=try exact dqd)only[evs0,simprocAttr,Ca,Bm,Cb,results223,e0,e1,e2,e6,e7,e8,c1,c2,hz,w5,w6,cl,hE,hP,hT,hA,k1,frA,Bd]):p:=h
def Yah (h:p:=by rw [if_pos cO] at ae;rw [ae];simp (maxSteps:=10^6)+contextual(disch:=try exact dqd)only[evs0,simprocAttr,Ca,Bm,Cb,results223,e0,e1,e2,e6,e7,e8,c1,c2,cl,hE,hP,hT,hA,k1,k2,frA,Bd]):p:=h
def Yai (h:p:=by rw [if_pos cU] at ae;rw [ae];simp (maxSteps:=10^6)+contextual(disch:=try exact dqd)only[evs0,simprocAttr,Ca,Bm,Cb,results223,e0,e1,e2,e6,e7,e8,c1,c2,cl,hE,hP,hT,hA,k1,frA,Bd]):p:=h
def Yaj (h:p:=by rw [d3] at d1;simp (maxSteps:=10^6)+contextual(disch:=try exact dqd)only[ev1,simprocAttr,Ca,Bm,Cb,results184,zA,bigA,digA,d1,d3,hL,hM,hp,Fq,Ff]):p:=h
def Yak (h:p:=by
 have hw2:Cd.wrap (x+c+y)=x+c+y:=Aa aD;have qg:Cd.wrap ((x+c+y).tdiv 10000)=(x+c+y).tdiv 10000:=by
  rw [Cz aA]; exact Aa aD
 simp (maxSteps:=10^6)+contextual(disch:=try exact dqd)only[ev0,simprocAttr,Ca,Bm,Cb,results265,e1,e5,e6,e20,e21,e22,digA,d2,d3,hx',f9,dx,hw1,hw2,qg,ft,hr];exact IH (i+1,zs++[(x+c+y).tmod 10000],(x+c+y).tdiv 10000,Az tk' cp 1) _ aF ⟨rfl,aE,hI.step hx gX hxk hyk rfl,am,aB,aB,aB,aB,aB,aB,aB⟩):p:=h
def Yal (h:p:=by
 have qg:Cd.wrap ((x+c).tdiv 10000)=(x+c).tdiv 10000:=by
  rw [Cz aA]; exact Aa aD
 simp (maxSteps:=10^6)+contextual(disch:=try exact dqd)only[ev0,simprocAttr,Ca,Bm,Cb,results265,e1,e5,e6,e20,e21,e22,digA,d2,d3,hx',dx,hw1,qg,ft,hr];exact IH (i+1,zs++[(x+c).tmod 10000],(x+c).tdiv 10000,Az tk' cp 1) _ aF ⟨rfl,aE,hI.step (y:=0) hx (by rw [Af,C5 aE]; rfl) hxk aE aE,am,aB,aB,aB,aB,aB,aB,aB⟩):p:=h
def Yam (h:p:=by
 refine ⟨hl2.os,hl2.tape,hl2.output,hl2.size,rfl,Nat.le_succ_of_le hl2.n,fun x o hx hm=>?_,hl2.cell,hl2.keep,hl2.shape,fun id e' he hn=>?_,hl2.tok⟩
 ·rcases Yw hm with h|h
  ·exact hl2.mt x o hx h
  ·omega
 ·rcases Ky he with ⟨h1,h2⟩|⟨h1,h2⟩
  ·subst h2;have:=hl2.n;simp only at this hn;omega
  ·obtain ⟨w1,w2,w3,w4⟩:=hl2.ent id e' h2 hn;refine ⟨w1,w2,w3,?_⟩;simp only [Cx.rev];rw [if_neg aA];exact w4):p:=h
def Yan (h:p:=by have hJ S tk k:=Aiy S tk k (decide (an<0)) (dig an.natAbs) (decide (ad<0)) (dig ad.natAbs) (decide (bn<0)) (dig bn.natAbs) (decide (bd<0)) (dig bd.natAbs) aA aA aA aA;rw [g1,g2,g3,g4] at hJ;simp only [resQ,qA,ratA,ceW,digA] at bc ah hJ ⊢;simp (maxSteps:=10^6)+contextual(disch:=try exact dqd)only[ev1,simprocAttr,Ca,Bm,Cb,results139,bc,ah,hJ];rw [hr]; exact ⟨rfl,rfl,rfl,rfl⟩):p:=h
def Yao (h:p:=by have hJ S tk k:=Aix S tk k (decide (an<0)) (dig an.natAbs) (decide (ad<0)) (dig ad.natAbs) (decide (bn<0)) (dig bn.natAbs) (decide (bd<0)) (dig bd.natAbs) aA aA aA aA;rw [g1,g2,g3,g4] at hJ;simp only [resQ,qA,ratA,ceW,digA] at bc ah hJ ⊢;simp (maxSteps:=10^6)+contextual(disch:=try exact dqd)only[ev1,simprocAttr,Ca,Bm,Cb,results188,bc,ah,hJ];rw [hr]; exact ⟨rfl,rfl,rfl,rfl⟩):p:=h
def Yap (h:p:=by have hJ S tk k:=Acd S tk k (decide (an<0)) (dig an.natAbs) (decide (ad<0)) (dig ad.natAbs) (decide (bn<0)) (dig bn.natAbs) (decide (bd<0)) (dig bd.natAbs) aA aA aA aA;rw [g1,g2,g3,g4] at hJ;simp only [resQ,qA,ratA,ceW,digA] at bc ah hJ ⊢;simp (maxSteps:=10^6)+contextual(disch:=try exact dqd)only[ev1,simprocAttr,Ca,Bm,Cb,results179,bc,ah,hJ];rw [hr]; exact ⟨rfl,rfl,rfl,rfl⟩):p:=h
def Yaq (h:p:=by simp only [qf,Cc,Cf] at bw;obtain ⟨cs,-,-,rfl⟩:=bw;simp only;rw [Af,Af,Cv aA]):p:=h
def Yar (h:p:=by exact IH (i+1,n.tdiv 10000,out++[n.tmod 10000],Az tk' c 1) _ aF ⟨rfl,aj,aE,am,aE,aB,aB,aB,aB,aB,aB⟩):p:=h
def Yas (h:p:=by have hJ S tk k:=Aiw S tk k (decide (an<0)) (dig an.natAbs) (decide (ad<0)) (dig ad.natAbs) (decide (bn<0)) (dig bn.natAbs) (decide (bd<0)) (dig bd.natAbs) aA aA aA aA;rw [g1,g2,g3,g4,<- hr] at hJ;simp only [ratA,ceW,digA] at bc ah hJ ⊢;simp (maxSteps:=10^6)+contextual(disch:=try exact dqd)only[ev1,simprocAttr,Ca,Bm,Cb,results178,bc,ah,hJ,Gf,Hs]):p:=h
def Yat (h:p:=by obtain ⟨i,hi⟩:=List.getElem?_of_mem hp;have b6:=(F5.1 hi).1;obtain ⟨r,hr⟩:=Ac (show i<t.rows.length by rw [<- h.nids]; exact b6);exact A5 (h.rowE i p r Za62 hr)):p:=h
def Yau (h:p:=by
 cases c with
 | unk=>trivial
 | tight=>exact hc
 | nilc=>exact hc
 | nl=>exact hc
 | nn=>exact hc
 | tok id ep sz =>
  obtain ⟨k,h1,h2,h3⟩:=hc;obtain ⟨k',h4,h5,h6⟩:=h.tok id k h1;refine ⟨k',h4,aA,fun e=>?_⟩;rcases h3 aA with h7|⟨b,cs,t,ea,hp,hb,hl⟩
  ·exact .inl h7
  ·obtain ⟨cs',h8,h9⟩:=h.shape b cs t _ hb;exact .inr ⟨b,cs',t,ea,by rw [h6 aA,hp],h8,aA⟩):p:=h
def Yav (h:p:=by
 have c1:(sysE l != 0)=false:=aV
 simp only [ansC,lsC,ceW,Au,Ap,Co,Cr] at hA;simp only [Au,Ap] at hC hV;refine opP func23 ntmps23 (hp3:=rfl) ?_;simp (maxSteps:=10^6)+contextual(disch:=try exact dqd)only[ev1,simprocAttr,Ca,Bm,Cb,results23,Au,Ap,hC,hV,hA,c1,h0];try (intro h; exact absurd h aP)):p:=h
def Yaw (h:p:=by simp only [VR] at hx ⊢;obtain ⟨b,a,cap,h0,h0',h0'',hn,hx⟩:=hx;refine ⟨b,a,cap,h0,h0',h0'',F3 hn h.n,fun e' he o7=>?_⟩;obtain ⟨e,h1,h2,h3⟩:=h.ent id e' he aA;obtain ⟨g1,cs,t,g2,g3⟩:=hx e h1 aA;obtain ⟨cs',g4,g5⟩:=h.shape b cs t _ g2;exact ⟨by rw [h3]; exact g1,cs',t,g4,aA⟩):p:=h
def Yax (h:p:=by
 refine ⟨fun q h=>?_,fun j=>?_⟩
 ·rcases C4.1 h with rfl|h
  ·exact hs.1
  ·exact ih.1 q h
 ·cases j with
  | zero=>exact hs.2
  | succ j=>exact ih.2 j):p:=h
def Yay (h:p:=by
 refine ⟨fun q h=>?_,fun q h=>?_,fun n j hn=>?_⟩
 ·rcases C4.1 h with rfl|h
  ·exact hs.1
  ·exact ih.1 q h
 ·rcases C4.1 h with rfl|h
  ·exact hs.2.1
  ·exact ih.2.1 q h
 ·cases n with
  | zero=>exact hs.2.2 j
  | succ n =>
   have:=ih.2.2 n j dB;rw [show k+1+n=k+(n+1) by omega] at this;exact this):p:=h
def Yaz (h:p:=by subst g9;have hT c' S tk k:=Yv S tk k (zs++[c]) c' aC;rw [hI.done hle] at hT;simp only [Fk,Cn,Cs,digC,digA] at hT;simp (maxSteps:=10^6)+contextual(disch:=try exact dqd)only[ev0,simprocAttr,Ca,Bm,Cb,results265,e1,e5,e6,e20,e21,e22,digA,d2,hr,hT]):p:=h
def Ya00 (h:p:=by
 rename_i t' l' c' qf;simp only [qf,Cc,Prod.exists] at bw;obtain ⟨l0,sz0,cs0,-,hh⟩:=bw;split at hh
 ·simp only [Cf] at hh;obtain ⟨-,rfl⟩:=hh;rfl
 ·simp only [Cf] at hh;obtain ⟨-,rfl⟩:=hh;simp only;rw [Af,Af,Cv aA]):p:=h
def Ya01 (h:p:=by have hq:=l7.h;have:=Tw (P:=P) (fn:=fn) (st:=st) (k:=k) (id:=id) (ops:=ops.toArray) fO fK aL;simp only [kQ,hq] at this;exact this):p:=h
def Ya02 (h:p:=by refine ⟨rfl,rfl,rfl,rfl,rfl,rfl,rfl,by simp [Cx.tok],by simp [Cx.tok,Jj],fun i hi=>Za4r,fun i k hk=>?_⟩;have hlt:=Bn hk;refine ⟨k,?_,Ce _,fun _=>by simp [Jj]; omega⟩;simp only [Cx.tok];rw [Af] at hk ⊢;rw [Cv hlt]; exact hk):p:=h
def Ya03 (h:p:=by
 obtain ⟨ex,s2⟩:=x;cases ex with
 | normal=>exact absurd h (hne s2)
 | exit id=>rfl
 | ret=>rfl):p:=h
def Ya04 (h:p:=by simp (maxSteps:=10^6)+contextual(disch:=try exact dqd)only[ev1,simprocAttr,Ca,Bm,Cb,results186,ratA,digA,hA,hB,bc,ah,hP,d1]):p:=h
def Ya05 (h:p:=by rw [dd] at hx;simp only [Act.put,Sg] at hx;rw [List.getElem?_set_ne (fun h=>jn (by rw [dd,h]))] at hx;exact hx):p:=h
def Ya06 (h:p:=by have hd:=Int.emod_add_mul_ediv (r*10000+x) b;rw [Int.add_mul,Oi,<- G0,Fu ((r*10000+x) / b)];generalize b*((r*10000+x) / b)=t at *;generalize (r*10000+x) % b=u at *;rw [G0];generalize val (out.drop m)*b=w at *;omega):p:=h
def Ya07 (h:p:=by unfold Oper.wp;rw [hrun];refine Calls.mono hC ?_;rintro e' w' ⟨v,C',rfl,rfl,k1,k2,k3,k4,k5,k6⟩;exact hn v C' k1 k2 k3 k4 k5 k6):p:=h
def Ya08 (h:p:=by exact Ls rfl (Aue S l vars fl k iq eq c W nz z.1 ⟨hl,li,hv,hc,fw,o5,vp,px⟩ oz Φ i b6 r hr sl nv t1 I cp tk' gm hcl cr j1 ab ba j2 L m0 nu u hU ou SX nx _ gn hR back _ rfl rfl rfl rfl rfl rfl rfl rfl rfl rfl rfl h18 rfl rfl rfl rfl rfl rfl rfl)):p:=h
def Ya09 (h:p:=by subst e; exact ⟨iJ,fun _=>Ce _⟩):p:=h
def Ya0a (h:p:=by
 split at he
 ·rename_i ab;simp only [ab,if_true];split at he
  ·rename_i s1 h1;rw [Bz (G:=gM _) h.pure h1];simp only [Cc] at he ⊢;obtain ⟨x,h1,h2⟩:=he;exact ⟨x,Bz h h1,h2⟩
  ·simp at he
 ·simp at he):p:=h
def Ya0b (h:p:=by
 simp only [Au] at hC;have c1:(sysE l != 0)=true:=aV
 refine opP func23 ntmps23 (hp3:=rfl) ?_;simp (maxSteps:=10^6)+contextual(disch:=try exact dqd)only[ev1,simprocAttr,Ca,Bm,Cb,results23,Au,hC,c1,h0]):p:=h
def Ya0c (h:p:=by
 have kv:=grownCap_ge w 1 0 3;refine ⟨_,rfl,Aiu (zs:=[x]) hbase (Ax w.drew _) kv (grownCap_le_maxLen w 1 0 _ aA) ?_ ?_,((Fw _ _).drew).alloc hbase _⟩
 ·rw [ph]; simp [size_zeroCells,a05]; omega
 ·simp):p:=h
def Ya0d (h:p:=by
 split at ho
 ·rename_i hn;rw [if_pos hn];unfold runN at ho ⊢;split at ho
  ·split at ho
   ·rename_i q1 q2;rw [one q1,one q2]; exact ho
   ·simp at ho
  ·exact one ho
 ·rename_i hn;rw [if_neg hn];exact one ho):p:=h
def Ya0e (h:p:=by exact IH (put S3 S.length ⟨k,ga0 y.1⟩,n2+1+ua4+ua3,P++[r0],U,some (P.length,y.1),Ck fq (Ck y.2 d.2)) _ aF ⟨rfl,jz,fe,hTn,⟨_,Ah aE,ga1 _,fun bi' q h=>Za6m⟩,dP,fun j h1 h2=>Za6r,aT⟩):p:=h
def Ya0f (h:p:=by
 cases hp:ops[j]? with
 | none=>rw [hp] at di; simp at di
 | some p =>
  rw [hp] at di;refine confl j p hp ?_ ?_ hne
  ·rcases dj with dj|dj <;> simp [conf,di,dj]
  ·rcases dj with dj|dj <;> simp [conf,di,dj]):p:=h
def Ya0g (h:p:=by
 refine ⟨rfl,rfl,by simp,fun r h=>aR,fun r h=>aR,fun q h=>?_,fun i h=>aO,fun j=>?_,fun i h=>aO,rfl⟩
 ·rw [(Ip.1 h).2]; exact w.1
 ·rw [Ajt w.2];split
  ·show (0:Rat)=- 0;grind
  ·rfl):p:=h
def Ya0h (h:p:=by
 rcases Dh hu with ⟨e,-⟩|⟨-,hu⟩
 ·omega
 ·exact h.high j u hj hu):p:=h
def Ya0i (h:p:=by
 have hb:0<B:=aA
 subst h;constructor
 ·rw [Int.add_comm,Int.add_mul_ediv_right _ _ aA,Int.ediv_eq_zero_of_lt h0 h1]; omega
 ·rw [Int.add_comm,Int.add_mul_emod_self_right,Int.emod_eq_of_lt h0 h1]):p:=h
def Ya0j (h:p:=by rw [hc] at hC;simp only [digA] at hC hM;simp (maxSteps:=10^6)+contextual(disch:=try exact dqd)only[ev1,simprocAttr,Ca,Bm,Cb,results260,iq1,iq2,iq3,iq4,iq5,zA,bigA,digA,d1,hC,hM]):p:=h
def Ya0k (h:p:=by
 rw [r2.2.2 i' j (by rw [Ak,h.rows]; exact ar),Li eE,d2.2];unfold Simp.pivT;by_cases e:i'=i
 ·subst e;rw [if_pos aA,if_pos rfl,if_pos rfl,d2.2]; rfl
 ·rw [if_neg aA,if_neg e,if_neg e]; rfl):p:=h
def Ya0l (h:p:=by have:=congrArg List.length hl;simp only [List.length_drop,Ci,h.rows] at this;omega):p:=h
def Ya0m (h:p:=by simp only [VR] at hx ⊢;obtain ⟨b,h0,hn,hx⟩:=hx;refine ⟨b,h0,F3 hn h.n,fun e' he o7=>?_⟩;obtain ⟨e,h1,h2,h3⟩:=h.ent id e' he aA;rw [h3]; exact hx e h1 aA):p:=h
def Ya0n (h:p:=by
 rcases hc with hc|⟨cs,t,ha,hp,hb,hl⟩
 ·exact .inl hc
 ·exact .inr ⟨b,cs,t,ha,Za2m,hb,hl⟩):p:=h
def Ya0o (h:p:=by have:=hle.trans (Le.of_below (C:=C1) hbel);rw [show ({ C1.hid arr t with av:=C.av } : Cx)=C1.at (C1.w.alloc (.cells arr t)) from by unfold Cx.hid Cx.at; rw [hle.av]];exact this):p:=h
def Ya0p (h:p:=by simp (maxSteps:=10^6)+contextual(disch:=try exact dqd)only[ev1,simprocAttr,Ca,Bm,Cb,results261,ratA,digA,ll,lm,wb,ck,bm,hD,hO,du,Fq,Ff]):p:=h
def Ya0q (h:p:=by
 have h3:=hD.t2 t fun j hj=>ht j ((aw j).2 (.inr hj));cases fm:o.dst with
 | none=>simp only [putT]; exact h3
 | some d =>
  simp only [putT];rw [B8 (fun x=>hne dE)];exact h3):p:=h
def Ya0r (h:p:=by exact IH (S3,n2+1+ua4+ua3,P++[r0],U,some (bi,least),Ck fq (Ck y.2 d.2)) _ aF ⟨rfl,jz,fe,we,⟨_,Za5m,ga1 _,fun bi' q h=>Za6o⟩,aE,fun j h1 h2=>Za3u,aT⟩):p:=h
def Ya0s (h:p:=by rw [F9] at hc;obtain ⟨c',ew,rfl⟩:=hc;rw [iM] at ew;obtain ⟨r,hr,ew⟩:=ew;exact C9.1 (C9.1 hp r hr) c' ew):p:=h
def Ya0t (h:p:=by
 simp only [Instr.indexAt,asIntOf,F0,Iu,Fs,Bq he];have:(0:Int)<=(k:Int)/\(k:Int)<(n:Int):=aA
 simp [Sj,this,E7 hs,Dz]):p:=h
def Ya0u (h:p:=by refine (Hm hc dz ho fun u C2 k1 k2 k3 k4 k5 k6=>?_).1;simp only [Ba] at h2;subst h2;exact hQ _ C2 (hle.trans k1) (dz.put k1 k2 k3 k4 k5 k6 hT)):p:=h
def Ya0v (h:p:=by
 by_cases h:c
 ·simp [h]; intro h'; cases h'
 ·simp [h]; rfl):p:=h
def Ya0w (h:p:=by
 by_cases h:c
 ·simp [h]; rfl
 ·simp [h]; intro h'; cases h'):p:=h
def Ya0x (h:p:=by simp only [Ba] at h; subst h;refine .mk ?_;rw [F0,D5 (by simp)];simp only [Fs,binOp,F0,Qg he,Iu]):p:=h
def Ya0y (h:p:=by simp (maxSteps:=10^6)+contextual(disch:=try exact dqd)only[ev1,simprocAttr,Ca,Bm,Cb,results251,ratA,digA,hA,hB,hK,hO1,hO2,qi,hO4,bc,ah,hS,hM]):p:=h
def Ya0z (h:p:=by
 simp only [Instr.indexAt,asIntOf,F0,Iu,Fs,Bq (D3 he)];have:(0:Int)<=(k:Int)/\(k:Int)<(len:Int):=aA
 simp [this,E7 hs,Dz]):p:=h
def Ya10 (h:p:=by
 simp only [Act.put,Sg] at hx;rw [List.getElem?_set] at hx;simp only [if_true] at hx;split at hx
 ·simpa using hx.symm
 ·simp at hx):p:=h
def Ya11 (h:p:=by simp only [Cc,Cf] at h;obtain ⟨cs,_,rfl,rfl⟩:=h;exact ⟨Za0j,Za02,hI.tk,slot rfl (fun _=>⟨_,_,_,rfl,hI.le⟩)⟩):p:=h
def Ya12 (h:p:=by rw [Xk];exact h x st hI fun y st' hlt hy=>ih (μ y) (hn ▸ hlt) y st' rfl hy):p:=h
def Ya13 (h:p:=by have:=Bb gf;rw [h5,P9] at this;simp at this ⊢;omega):p:=h
def Ya14 (h:p:=by simp (maxSteps:=10^6)+contextual(disch:=try exact dqd)only[ev1,simprocAttr,Ca,Bm,Cb,results251,ratA,digA,hA,hB,hK,hw1,hw2,d1,d2]):p:=h
def Ya15 (h:p:=by have h3:n.natAbs.gcd d.natAbs<=d.natAbs:=jY _ aA;exact Fp (Bg.2 (Iw h3 (Bg.1 (Ce _)))) hd):p:=h
def Ya16 (h:p:=by
 rcases (aw j).1 hj with rfl|hj
 ·exact ly e he
 ·exact hD.closed j hj e he):p:=h
def Ya17 (h:p:=by simp (maxSteps:=10^6)+contextual(disch:=try exact dqd)only[ev1,simprocAttr,Ca,Bm,Cb,results229,iq1,iq2,iq3,iq4,iq5,Mv,digA]):p:=h
def Ya18 (h:p:=by rw [hr];simp (maxSteps:=10^6)+contextual(disch:=try exact dqd)only[evs0,simprocAttr,Ca,Bm,Cb,results220,frA,k1,k2,new1a,H4]):p:=h
def Ya19 (h:p:=by have hr:=Reach.run R;rw [h0] at hr;exact ⟨fun c hc=>L7 hM hI hX hr (by have:=R.LN; omega),fun r s h1 h2 h3=>Qd hM hI hX hr h1 h2 h3⟩):p:=h
def Ya1a (h:p:=by subst hr;simp (maxSteps:=10^6)+contextual(disch:=try exact dqd)only[ev1,simprocAttr,Ca,Bm,Cb,results178,bc,ah,v1,v2,k1,k2]):p:=h
def Ya1b (h:p:=by simp (maxSteps:=10^6)+contextual(disch:=try exact dqd)only[ev1,simprocAttr,Ca,Bm,Cb,results107,hC,d0];simp [G3,h0,linA,Ag]):p:=h
def Ya1c (h:p:=by unfold apO;rw [h]; simp only [hl];rw [if_pos ⟨aA,dD⟩];simp only [apO2,hE];rw [if_pos ⟨trivial,h0⟩];rw [if_pos ⟨aA,Za5c⟩]):p:=h
def Ya1d (h:p:=by exact IH (u.tdiv 10000,out++[((u.natAbs % 10000:Nat):Int)],Az tk' c 1) _ aF ⟨rfl,aD,by rw [t2]; exact hs,am,aB,aB,aB,aB,aB⟩):p:=h
def Ya1e (h:p:=by
 cases U with
 | nil=>simp at rt; omega
 | cons x u=>exact ⟨x,u,rfl⟩):p:=h
def Ya1f (h:p:=by rw [hK];exact ⟨l1,aA,hneg,fun j hj=>uu j (Cl _) hj,l2,fun i' ar hp=>(l5 i' ar hp).1,fun i' ar hp=>(l5 i' ar hp).2⟩):p:=h
def Ya1g (h:p:=by simp only [over,Cc] at h;obtain ⟨x,h,rfl⟩:=h;simp only [Co,over,Apr p h,C7]):p:=h
def Ya1h (h:p:=by simp only [VR] at hx ⊢;obtain ⟨b,o,vs,e,hl,hr⟩:=hx;exact ⟨b,o,vs,e,hl.stays h.stays,PRs.stays h.stays cs vs hr⟩):p:=h
def Ya1i (h:p:=by
 cases hp:ops[j]? with
 | none=>rw [hp] at di; simp at di
 | some p =>
  rw [hp] at di;have:=(confl j p hp fJ fJ aA).1 h4;omega):p:=h
def Ya1j (h:p:=by have:=Ic.2 this;simp; omega):p:=h
def Ya1k (h:p:=by simp only [A6,Dx,h1,h2,h3,h4,hpp,Jz,h5]; rfl):p:=h
def Ya1l (h:p:=by simp (maxSteps:=10^6)+contextual(disch:=try exact dqd)only[ev1,simprocAttr,Ca,Bm,Cb,results141,d1,d2]):p:=h
def Ya1m (h:p:=by simp only [Cx.tok];obtain ⟨x,hx⟩:=Ac (l:=put C.tk id (ep+1)) (i:=id) (by rw [Am]; exact Bn h.2);rw [hx,Eg hx]):p:=h
def Ya1n (h:p:=by unfold apO;rw [h]; simp only [hl];rw [if_pos ⟨aA,dD⟩];rfl):p:=h
def Ya1o (h:p:=by
 rw [dh,df];intro q hq;rcases Bw hq with rfl|hq
 ·exact od
 ·rcases Bw hq with rfl|hq
  ·exact oo
  ·exact orowY q hq):p:=h
def Ya1p (h:p:=by have:=(F5.1 hj).1;simp at this; omega):p:=h
def Ya1q (h:p:=by subst e;rw [if_pos rfl] at ae;rw [hp] at hq;simp only [Ba] at ae hq;subst ae; subst hq; exact he):p:=h
def Ya1r (h:p:=by
 funext k;show at_ 0 (put t.basis i c) k=if k=i then c else at_ 0 t.basis k
 exact Li (by rw [h.basis]; exact hi)):p:=h
def Ya1s (h:p:=by rw [if_pos rfl,if_pos rfl]; grind):p:=h
def Ya1t (h:p:=by obtain ⟨-,o',fk,-⟩:=Eu hi;have:=(Cj.1 fk).1;rw [Array.size_push] at this; omega):p:=h
def Ya1u (h:p:=by cases h;exact ⟨T,hr,Bu.2 ⟨0,rfl⟩⟩):p:=h
def Ya1v (h:p:=by refine ⟨[],?_,by simp [VRs],by simp⟩;cases a <;> simp [kT,loadCells,loadCellsFrom]):p:=h
def Ya1w (h:p:=by simp only [Cc,Cf] at ho; obtain ⟨_,_,_,rfl⟩:=ho; exact ⟨_,rfl⟩):p:=h
def Ya1x (h:p:=by
 by_cases e:j=i
 ·subst e; rw [hx] at hy; simp only [Ba] at hy; omega
 ·exact this.2.1 aA):p:=h
def Ya1y (h:p:=by simpa using this):p:=h
def Ya1z (h:p:=by
 have cj:¬ fn.body=none:=Za2q
 simp [execOp,e,resolve,hx,qq,Deferred.ofValue,invoke,callFunc,g1,ci,cj]):p:=h
def Ya20 (h:p:=by
 rcases Bw ae with rfl|ae
 ·exact hl
 ·exact h.rowW r ae):p:=h
def Ya21 (h:p:=by refine ⟨e.1,e.2.trans ?_⟩;rw [Fa,Fa];exact L4 (Ha aA) (Ha aA) (Ha h3)):p:=h
def Ya22 (h:p:=by
 have:t.rows.length<=k:=List.drop_eq_nil_iff.1 hl;rw [h.rows] at this;have e:k=m:=aA
 subst e;exact hb):p:=h
def Ya23 (h:p:=by
 rw [F1] at hc;rcases C3.1 hc with hc|hc
 ·exact g1 c hc
 ·exact g2 c hc):p:=h
def Ya24 (h:p:=by exact IH (y,x % y) _ aF ⟨rfl,hgn,hy,hym,aB,aB,aB⟩):p:=h
def Ya25 (h:p:=by simp only [VR] at hx ⊢;obtain ⟨vs,e,hr⟩:=hx;exact ⟨vs,e,VRs.mono0 h caps vs.toList hr⟩):p:=h
def Ya26 (h:p:=by rw [k1.keep b (Cj.1 hb1).1 fun o hm=>bz.sr.own b o hm (eg o)]; exact hb1):p:=h
def Ya27 (h:p:=by simp only [VR] at hx ⊢;obtain ⟨vs,e,hr⟩:=hx;exact ⟨vs,e,VRs.mono h caps vs.toList hr⟩):p:=h
def Ya28 (h:p:=by rw [I5 fh,S7] at hj;simp [I7,h3]; simpa using hj):p:=h
def Ya29 (h:p:=by
 cases fm:o.dst with
 | none=>simp only [putT]
 | some d =>
  simp only [putT];rw [B8 (fun x=>hne dE)]):p:=h
def Ya2a (h:p:=by
 obtain ⟨ex,s2⟩:=x;cases ex with
 | normal=>rfl
 | exit id=>exact absurd h (hne id s2)
 | ret=>rfl):p:=h
def Ya2b (h:p:=by simp only [VR] at hx ⊢;obtain ⟨vs,e,hr⟩:=hx;exact ⟨vs,e,VRs.mono0 h cs vs.toList hr⟩):p:=h
def Ya2c (h:p:=by rw [List.take_append,Fc aA,vt,Ob,kW,Fo]):p:=h
def Ya2d (h:p:=by simp only [VR] at hx ⊢;obtain ⟨vs,e,hr⟩:=hx;exact ⟨vs,e,VRs.mono h cs vs.toList hr⟩):p:=h
def Ya2e (h:p:=by exact ⟨Hb (v:=w) (w':=C'.w) eY (hn w C' h2 h3 (h4.trans hr.S) h5 (h6.trans hr.n) h7),rfl⟩):p:=h
def Ya2f (h:p:=by
 obtain ⟨ex,s2⟩:=r;cases ex with
 | normal=>exact absurd he (hne s2)
 | exit id=>rfl
 | ret=>rfl):p:=h
def Ya2g (h:p:=by
 cases fx with
 | func g=>simp only [xt g rfl,hxf,Bool.or_true]
 | _=>simp only [qw,Bool.or_true]):p:=h
def Ya2h (h:p:=by
 split at he
 ·rename_i r' s1 ho;rw [Lt (fun z hz=>Dn ih aA c _ z hz) ho];exact he
 ·simp at he):p:=h
def Ya2i (h:p:=by unfold mkA;rw [hz,hs,hb,intN_cast];simp only [mkB];rw [if_pos ⟨Ce _,h,hbl,rfl⟩]):p:=h
def Ya2j (h:p:=by show Simp.Tab.mk _ _ _=Simp.Tab.mk _ _ _;exact congr (congr (congrArg Simp.Tab.mk eT) eC) eB):p:=h
def Ya2k (h:p:=by
 cases fx with
 | func g=>simp only [xt g rfl,vv,jI]
 | _=>simp only [qw,jI]):p:=h
def Ya2l (h:p:=by refine ⟨e.1,e.2.trans ?_⟩;rw [Fa,Fa];exact J2 (Ha aA) (Ha aA)):p:=h
def Ya2m (h:p:=by exact h.rowE j q r hq ae):p:=h
def Ya2n (h:p:=by rw [<- Nw];exact P6 (w:=intA b0) (by rw [Af] at hb0 ⊢; rw [Et,hb0]; rfl)):p:=h
def Ya2o (h:p:=by simp only [Ba,Cf] at h; obtain ⟨-,rfl⟩:=h; exact Lf.refl _):p:=h
def Ya2p (h:p:=by rw [F9] at he;obtain ⟨e',pg,rfl⟩:=he;rw [Fg]; exact g2 e' pg):p:=h
def Ya2q (h:p:=by rename_i h'; exact absurd h' (hb _)):p:=h
def Ya2r (h:p:=by simp only [Cc,Cf] at bw;obtain ⟨cs,-,-,rfl⟩:=bw;simp):p:=h
def Ya2s (h:p:=by exact IH (i+1,j,o++[x],Az tk' c 2) _ aF ⟨rfl,aE,hj,aC,am,Za0y,aG,aG,aG,aG,aG,aG,aG⟩):p:=h
def Ya2t (h:p:=by exact IH (i,j+1,o++[y],Az tk' c 2) _ aF ⟨rfl,hi,aE,aC,am,Za0z,aG,aG,aG,aG,aG,aG,aG⟩):p:=h
def Ya2u (h:p:=by refine Qe (by rw [<- k7,Ys]) gf fun e he=>?_;have:=fd e he;rw [Hi aA]; exact bj e this):p:=h
def Ya2v (h:p:=by
 refine ⟨fun h1=>?_,fun h1=>?_⟩
 ·simp [Ea,h0,hq,hb,bj,h1]
 ·simp [Ea,h0,hq,hb,bj,h1]):p:=h
def Ya2w (h:p:=by unfold depsOf; rw [ho];exact F9.2 ⟨e,List.mem_filter.2 ⟨gH,hb⟩,rfl⟩):p:=h
def Ya2x (h:p:=by
 have:n.natAbs<10000 ^ 5:=aA
 exact F3 this (Nat.pow_le_pow_right aA aA)):p:=h
def Ya2y (h:p:=by obtain ⟨q1,q2⟩:=res g1 h;simp only at q2; subst q2;simp only [cont,outA,q1]; rfl):p:=h
def Ya2z (h:p:=by simp only [A6,Dx,h1,h2,h3,h4]; rfl):p:=h
def Ya30 (h:p:=by simp only [Ba,Cf] at h; obtain ⟨_,rfl⟩:=h; exact this):p:=h
def Ya31 (h:p:=by simp only [VR] at hx ⊢;obtain ⟨u,e,hr⟩:=hx;exact ⟨u,e,VR.mono0 h v u hr⟩):p:=h
def Ya32 (h:p:=by simp only [VR] at hx ⊢;obtain ⟨u,e,hr⟩:=hx;exact ⟨u,e,VR.mono h v u hr⟩):p:=h
def Ya33 (h:p:=by simp only [Cc] at h;obtain ⟨v,h,hh⟩:=h;exact quiet v h hh):p:=h
def Ya34 (h:p:=by
 have hxs:x<listed.size:=aA
 simp [Sk,hxs] at h0 h1;rw [h0] at h1; cases h1):p:=h
def Ya35 (h:p:=by rw [he,Fi];exact ⟨fun h=>by simp [A6,h],fun h=>by simp [A6,h]⟩):p:=h
def Ya36 (h:p:=by
 split at h
 ·rename_i h'; simp only [Ba] at h; rw [h',h]
 ·cases h):p:=h
def Ya37 (h:p:=by rw [M2,h.len,Zt,J1,this];exact hv):p:=h
def Ya38 (h:p:=by have:=du.2.2 aA;have h2:=(hw c aA this.1).2 hlt;rw [this.2] at h2; simp at h2):p:=h
def Ya39 (h:p:=by exact Ce _):p:=h
def Ya3a (h:p:=by show RK P fn (.loop c) { st with S:=cutS (Q2 c) m st.S } k=_;rw [hk.h]; rfl):p:=h
def Ya3b (h:p:=by have:=Ic.2 cq;simp; omega):p:=h
def Ya3c (h:p:=by have e1:n.tdiv 10000=n / 10000:=Cz aA;rw [e1,Aa aD]):p:=h
def Ya3d (h:p:=by unfold inB;exact ⟨fun h=>dM,fun h=>dM⟩):p:=h
def Ya3e (h:p:=by simp only [A6,Dx,h1,h2,h3]; rfl):p:=h
def Ya3f (h:p:=by rename_i x hx;rw [hx] at h2; simp only [VR] at h2; subst h2;simpa using h):p:=h
def Ya3g (h:p:=by simp only [Cf] at e;exact ⟨h0,o',fk,by rw [e.1]; exact hd⟩):p:=h
def Ya3h (h:p:=by simp only [Cx.hid];rw [hle.av];exact ⟨fun h=>h.resolve_right hx,.inl⟩):p:=h
def Ya3i (h:p:=by show entAt SF _ _=_;rw [Ab (kr _ aA aA (fun _=>⟨aA,aA⟩))]; exact ak.Z):p:=h
def Ya3j (h:p:=by show nth SF j=_;rw [kr j aA aA (fun _=>⟨aA,aA⟩)]; exact ak.fr j h1 h2):p:=h
def Ya3k (h:p:=by simp [Instr.fieldAt,Bq hu,hfk,Sj,fieldPlace,E7 h2,h4,Dz,h1]):p:=h
def Ya3l (h:p:=by have:l.length≠0:=fun h'=>h (Cw.1 h');simp; omega):p:=h
def Ya3m (h:p:=by have:=(Ip.1 hd).2; omega):p:=h
def Ya3n (h:p:=by
 by_cases e:i'=k
 ·subst e; exact ⟨aK,fun h'=>aK⟩
 ·exact b5 i' aA ef):p:=h
def Ya3o (h:p:=by have:=Bb aa;exact List.length_eq_one_iff.1 (by simpa using this.symm)):p:=h
def Ya3p (h:p:=by rw [oq] at this; simp at this):p:=h
def Ya3q (h:p:=by
 by_cases e:i'=k
 ·subst e; exact ⟨aK,fun _=>aA⟩
 ·exact b5 i' aA ef):p:=h
def Ya3r (h:p:=by simp [method,typeInfo,h1,h2,h3,h4,follow,receiverAt,Bq h5,Place.get]):p:=h
def Ya3s (h:p:=by exact ⟨hr.defers,v,h1,v,C',rfl,rfl,hle,hr.sr,hr.S,hr.tk,hr.n,h2⟩):p:=h
def Ya3t (h:p:=by rw [Af] at h;exact (Ip.1 (Il h)).2):p:=h
def Ya3u (h:p:=by rw [if_pos aV] at h; exact absurd h h0):p:=h
def Ya3v (h:p:=by
 cases u with
 | nil=>simp at jm; omega
 | cons x u=>exact ⟨x,u,rfl⟩):p:=h
def Ya3w (h:p:=by
 cases U with
 | nil=>simp at dn; omega
 | cons x u=>exact ⟨x,u,rfl⟩):p:=h
def Ya3x (h:p:=by rwa [show o+(i+1)*sz=o+sz+i*sz by rw [Sx]; omega] at this):p:=h
def Ya3y (h:p:=by rw [Fi,Fe (by simp)]; simp [val]):p:=h
def Ya3z (h:p:=by simp only [A6,Dx,h1,h2]; rfl):p:=h
def Ya40 (h:p:=by obtain ⟨b',o',h1,h2,-⟩:=hcells j x hx;exact ⟨b',o',h1,h2⟩):p:=h
def Ya41 (h:p:=by rw [h0,if_pos rfl] at hE;unfold sysE;rw [if_neg h64,hE,if_pos h0]):p:=h
def Ya42 (h:p:=by simp only; show _ / ((1:Int):Rat)=_; rw [kL]; grind):p:=h
def Ya43 (h:p:=by rw [Dt e];exact ⟨.inr,fun h=>h.resolve_left fun x=>e x.symm⟩):p:=h
def Ya44 (h:p:=by rw [ho] at this;simp only at this;rw [dv] at this; simp at this):p:=h
def Ya45 (h:p:=by exact ⟨rfl,rfl⟩):p:=h
def Ya46 (h:p:=by
 rcases Dh hu with ⟨-,e⟩|⟨e,-⟩
 ·omega
 ·exact absurd rfl e):p:=h
def Ya47 (h:p:=by have h5:=b5 i' aA ef;exact ⟨aK,fun h'=>by have:=h5.1; grind⟩):p:=h
def Ya48 (h:p:=by
 split at he
 ·rename_i r' s1 ho;rw [out ho];exact he
 ·simp at he):p:=h
def Ya49 (h:p:=by exact sum_congr fun j _=>aK):p:=h
def Ya4a (h:p:=by exact kX _ this):p:=h
def Ya4b (h:p:=by exact IH (P++[r0'],U,some P.length) _ aF ⟨rfl,nk,fe,hb2,aT⟩):p:=h
def Ya4c (h:p:=by
 refine ⟨0,?_,Ce _,fun _=>?_⟩
 ·simp only [Cx.tok,Af]; simp
 ·exact Ya0n):p:=h
def Ya4d (h:p:=by
 induction n using So with
 | _ n ih =>
  intro x st hn hI;exact Ya12):p:=h
def Ya4e (h:p:=by
 by_cases e:i=k
 ·subst e;exact Ya1s
 ·rw [if_neg e,if_neg (Ix e)]; grind):p:=h
def Ya4f (h:p:=by
 cases dd:o.dst with
 | none=>rw [dd] at hx; exact hx
 | some d0 =>
  exact Ya05):p:=h
end Go.Proofs.YthelkgdmgihhiaaGreat
