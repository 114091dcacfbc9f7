/- C0c CF0 -/
import Derived.Test.YtcjffhadclngmaaGreatZC19
import Derived.Test.YtcjffhadclngmaaGreatZC16
namespace Go.Proofs.YtcjffhadclngmaaGreat
section
open Go Tryz
section
variable (S:List Ent) (tk:List Nat) (k:Nat)
theorem Aek:cL prog 18 [.agg (ceW (1,2)),.agg (ceW (1,2))] S tk k=some (.int 0,S,tk,k):=Kr func18 rfl rfl rfl rfl rfl 60 (by kernel_rfl) S tk k
theorem Agx:cL prog 18 [.agg (ceW (-5,1)),.agg (ceW (-5,1))] S tk k=some (.int 0,S,tk,k):=Kr func18 rfl rfl rfl rfl rfl 60 (by kernel_rfl) S tk k
end
end
section
open Go
def IncC (cs:List (ByteArray × Int)):Prop:=Inc (cs.map (·.1))
theorem Ak5:∀ {n:Int} {p:Option ByteArray} {cs:List (ByteArray × Int)},A1 n p cs=0->inB n=true/\∀ c ∈ cs,inB c.2=true
 | n,p,[],h=>by
  unfold A1 at h
  split at h
  ·rename_i h1; exact ⟨h1,fun c hc=>by simp at hc⟩
  ·cases h
 | n,p,c :: cs,h=>by
  unfold A1 at h
  split at h
  ·cases h
  ·split at h
   ·cases h
   ·rename_i h1
    split at h
    ·cases h
    ·obtain ⟨a,b⟩:=Ak5 h
     refine ⟨a,fun x hx=>?_⟩
     rcases List.mem_cons.1 hx with rfl|hx
     ·simp at h1; exact h1.2
     ·exact b x hx
theorem Af4 {n:Int} (h:inB n=true):i64 n:=by unfold inB at h; simp at h; unfold i64; omega
theorem Abc:∀ {l:List RowT},Eu l=0->∀ r ∈ l,i64 r.2.1/\∀ c ∈ r.1,i64 c.2
 | [],_=>fun r hr=>by simp at hr
 | r :: l,h=>by
  unfold Eu at h
  by_cases h0:B1 r.1 r.2.1=0
  ·rw [h0] at h
   simp only [bne_self_eq_false,Bool.false_eq_true,if_false] at h
   intro x hx
   rcases List.mem_cons.1 hx with rfl|hx
   ·unfold B1 at h0
    split at h0
    ·cases h0
    ·obtain ⟨a,b⟩:=Ak5 h0
     exact ⟨Af4 a,fun c hc=>Af4 (b c hc)⟩
   ·exact Abc h x hx
  ·rw [if_pos (by simpa using h0)] at h; exact absurd h h0
theorem Agc:∀ {n:Int} {p:Option ByteArray} {cs:List (ByteArray × Int)},A1 n p cs=0->IncC cs/\∀ c ∈ cs,∀ b,p=some b->nm b<nm c.1
 | n,p,[],h=>⟨List.Pairwise.nil,fun c hc=>by simp at hc⟩
 | n,p,c :: cs,h=>by
  unfold A1 at h
  split at h
  ·cases h
  ·split at h
   ·cases h
   ·split at h
    ·cases h
    ·rename_i h3
     obtain ⟨a,b⟩:=Agc h
     have hc:∀ x ∈ cs,nm c.1<nm x.1:=fun x hx=>b x hx c.1 rfl
     refine ⟨List.pairwise_cons.2 ⟨fun y hy=>?_,a⟩,?_⟩
     ·obtain ⟨x,hx,rfl⟩:=List.mem_map.1 hy; exact hc x hx
     ·intro x hx d hd
      subst hd
      have k7:nm d<nm c.1:=by
       simp only [H0,Bool.or_eq_true,not_or,Bool.not_eq_true] at h3
       obtain ⟨e1,e2⟩:=h3
       rw [Abr] at e1
       rw [Qp] at e2
       rcases Agm d c.1 with h|h|h
       ·exact h
       ·exact absurd h.symm (by simpa using e2)
       ·exact absurd h (by simpa using e1)
      rcases List.mem_cons.1 hx with rfl|hx
      ·exact k7
      ·exact List.lt_trans k7 (hc x hx)
theorem Agr {cs:List (ByteArray × Int)} {n:Int} (h:B1 cs n=0):IncC cs:=by
 unfold B1 at h
 split at h
 ·cases h
 ·exact (Agc h).1
theorem Af9:∀ {n:Int} {p:Option ByteArray} {cs:List (ByteArray × Int)},A1 n p cs=0->n.natAbs<=1000000000000/\∀ c ∈ cs,c.2.natAbs<=1000000000000/\c.2≠0
 | n,p,[],h=>by
  unfold A1 at h
  split at h
  ·rename_i h1
   unfold inB at h1
   simp at h1
   exact ⟨by omega,fun c hc=>by simp at hc⟩
  ·cases h
 | n,p,c :: cs,h=>by
  unfold A1 at h
  split at h
  ·cases h
  ·split at h
   ·cases h
   ·rename_i h1
    split at h
    ·cases h
    ·obtain ⟨a,b⟩:=Af9 h
     refine ⟨a,fun x hx=>?_⟩
     rcases List.mem_cons.1 hx with rfl|hx
     ·unfold inB at h1
      simp at h1
      exact ⟨by omega,h1.1⟩
     ·exact b x hx
theorem Xm {cs:List (ByteArray × Int)} {n:Int} (h:B1 cs n=0):n.natAbs<=1000000000000/\∀ c ∈ cs,c.2.natAbs<=1000000000000/\c.2≠0:=by
 unfold B1 at h
 split at h
 ·cases h
 ·exact Af9 h
theorem Jh:∀ {l:List RowT},Eu l=0->∀ r ∈ l,B1 r.1 r.2.1=0
 | [],_=>fun r hr=>by simp at hr
 | r :: l,h=>by
  unfold Eu at h
  by_cases h0:B1 r.1 r.2.1=0
  ·rw [h0] at h
   simp only [bne_self_eq_false,Bool.false_eq_true,if_false] at h
   intro x hx
   rcases List.mem_cons.1 hx with rfl|hx
   ·exact h0
   ·exact Jh h x hx
  ·rw [if_pos (by simpa using h0)] at h; exact absurd h h0
end
end Go.Proofs.YtcjffhadclngmaaGreat
