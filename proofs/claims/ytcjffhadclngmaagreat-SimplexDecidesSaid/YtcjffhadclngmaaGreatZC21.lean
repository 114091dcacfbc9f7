/- Part 21. -/
import Derived.Test.YtcjffhadclngmaaGreatZC20
open Bool renaming false_eq_true->Ef,or_eq_true->Kn
open List renaming mem_cons->Cv,mem_map->Ft,pairwise_cons->Ie
namespace Go.Proofs.YtcjffhadclngmaaGreat
section
open Go Tryz
section
variable (S:List Ent) (tk:List Nat) (k:Nat)
theorem Aon:cL prog 18 [.agg (ceW (1,2)),.agg (ceW (1,2))] S tk k=some (.int 0,S,tk,k):=Me func18 rfl rfl rfl rfl rfl 60 aI S tk k
theorem Aoo:cL prog 18 [.agg (ceW (-5,1)),.agg (ceW (-5,1))] S tk k=some (.int 0,S,tk,k):=Me func18 rfl rfl rfl rfl rfl 60 aI S tk k
end
end
section
open Go
def IncC (cs:List (ByteArray × Int)):Prop:=Inc (cs.map (·.1))
theorem Aru:∀ {n:Int} {p:Option ByteArray} {cs:List (ByteArray × Int)},Bl n p cs=0->inB n=true/\∀ c ∈ cs,inB c.2=true
 | n,p,[],h=>by
  unfold Bl at h;split at h
  ·rename_i h1; exact ⟨h1,fun c hc=>by simp at hc⟩
  ·cases h
 | n,p,c :: cs,h=>by
  unfold Bl at h;split at h
  ·cases h
  ·split at h
   ·cases h
   ·rename_i h1;split at h
    ·cases h
    ·obtain ⟨a,b⟩:=Aru h;refine ⟨a,fun x hx=>?_⟩;rcases Cv.1 hx with rfl|hx
     ·simp at h1; exact h1.2
     ·exact b x hx
theorem Al2 {n:Int} (h:inB n=true):i64 n:=by unfold inB at h; simp at h; unfold i64; omega
theorem Zp:∀ {l:List RowT},G9 l=0->∀ r ∈ l,i64 r.2.1/\∀ c ∈ r.1,i64 c.2
 | [],_=>fun r hr=>by simp at hr
 | r :: l,h=>by
  unfold G9 at h;by_cases h0:Bz r.1 r.2.1=0
  ·rw [h0] at h;simp only [bne_self_eq_false,Ef,if_false] at h;intro x hx;rcases Cv.1 hx with rfl|hx
   ·unfold Bz at h0;split at h0
    ·cases h0
    ·obtain ⟨a,b⟩:=Aru h0;exact ⟨Al2 a,fun c hc=>Al2 (b c hc)⟩
   ·exact Zp h x hx
  ·exact Ya3w
theorem Ak6:∀ {n:Int} {p:Option ByteArray} {cs:List (ByteArray × Int)},Bl n p cs=0->IncC cs/\∀ c ∈ cs,∀ b,p=some b->nm b<nm c.1
 | n,p,[],h=>⟨List.Pairwise.nil,fun c hc=>by simp at hc⟩
 | n,p,c :: cs,h=>by
  unfold Bl at h;split at h
  ·cases h
  ·split at h
   ·cases h
   ·split at h
    ·cases h
    ·rename_i h3;obtain ⟨a,b⟩:=Ak6 h;have hc:∀ x ∈ cs,nm c.1<nm x.1:=fun x hx=>b x hx c.1 rfl;refine ⟨Ie.2 ⟨fun y hy=>?_,a⟩,?_⟩
     ·obtain ⟨x,hx,rfl⟩:=Ft.1 hy; exact hc x hx
     ·intro x hx d hd;subst hd;have lq:nm d<nm c.1:=by
       simp only [Kh,Kn,not_or,Bool.not_eq_true] at h3;obtain ⟨e1,e2⟩:=h3;rw [Ah1] at e1;rw [N3] at e2;rcases Am0 d c.1 with h|h|h
       ·exact h
       ·exact absurd h.symm (by simpa using e2)
       ·exact absurd h (by simpa using e1)
      rcases Cv.1 hx with rfl|hx
      ·exact lq
      ·exact List.lt_trans lq (hc x hx)
theorem Abq {cs:List (ByteArray × Int)} {n:Int} (h:Bz cs n=0):IncC cs:=by
 unfold Bz at h;split at h
 ·cases h
 ·exact (Ak6 h).1
theorem Ak7:∀ {n:Int} {p:Option ByteArray} {cs:List (ByteArray × Int)},Bl n p cs=0->n.natAbs<=1000000000000/\∀ c ∈ cs,c.2.natAbs<=1000000000000/\c.2≠0
 | n,p,[],h=>by
  unfold Bl at h;split at h
  ·rename_i h1;unfold inB at h1;simp at h1;exact ⟨aA,fun c hc=>by simp at hc⟩
  ·cases h
 | n,p,c :: cs,h=>by
  unfold Bl at h;split at h
  ·cases h
  ·split at h
   ·cases h
   ·rename_i h1;split at h
    ·cases h
    ·obtain ⟨a,b⟩:=Ak7 h;refine ⟨a,fun x hx=>?_⟩;rcases Cv.1 hx with rfl|hx
     ·unfold inB at h1;simp at h1;exact ⟨aA,h1.1⟩
     ·exact b x hx
theorem U9 {cs:List (ByteArray × Int)} {n:Int} (h:Bz cs n=0):n.natAbs<=1000000000000/\∀ c ∈ cs,c.2.natAbs<=1000000000000/\c.2≠0:=by
 unfold Bz at h;split at h
 ·cases h
 ·exact Ak7 h
theorem Hi:∀ {l:List RowT},G9 l=0->∀ r ∈ l,Bz r.1 r.2.1=0
 | [],_=>fun r hr=>by simp at hr
 | r :: l,h=>by
  unfold G9 at h;by_cases h0:Bz r.1 r.2.1=0
  ·rw [h0] at h;simp only [bne_self_eq_false,Ef,if_false] at h;intro x hx;rcases Cv.1 hx with rfl|hx
   ·exact h0
   ·exact Hi h x hx
  ·exact Ya3w
end
end Go.Proofs.YtcjffhadclngmaaGreat
