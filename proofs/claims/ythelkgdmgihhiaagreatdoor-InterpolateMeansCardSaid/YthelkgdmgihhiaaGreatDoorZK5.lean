/- Part 5. -/
import Derived.Test.YthelkgdmgihhiaaGreatDoorZK4
import Derived.Lib.AppendStr
namespace Go.Lib
theorem run_append_nil_str {P:Program} (w:World) (t u ty e:TypeId) (i:TypeInfo) (z:Value) (ht:P.underlying t=some (.slice e)) (hu:P.underlying u=some .string) (hi:P.info? e=some i) (hz:i.zero=some z)
  (s:ByteArray) (h0:0<s.size) (py:(s.size:Int)<=9223372036854775807) (pz:s.size*i.bytes<=281474976710656) :
  (Builtin.append_ #[t,u] ty #[.slice none 0 0,.string s]).run P w =
   .ok (.slice (some ⟨w.heap.size,0,none⟩) s.size (grownCap w s.size 0 e))
    (w.drew.alloc (.cells ((strCells s).toArray++Builtin.zeroCells z.cells (grownCap w s.size 0 e - s.size)) e)):=by
 rw [run_append_nil_string (P:=P) w t u ty e i z ht hu hi hz s h0 py pz]
 congr 4
 apply Array.ext'; simp [strCells]
end Go.Lib
namespace Go.Proofs.YthelkgdmgihhiaaGreatDoor
open Go.RowKit
section
variable {P:Program}
theorem Nc (w:World) (t u ty e:TypeId) (i:TypeInfo) (ht:P.underlying t=some (.slice e)) (hu:P.underlying u=some .string) (hi:P.info? e=some i) (hs1:i.size=1)
  (g sLen sCap:Nat) (tt:TypeId) (cur:Array Value) (hg:w.heap[g]?=some (.cells cur tt (0,0))) (s:ByteArray) (news:List Value) (m k:Nat) (hn:news=Lib.strCells s) (hm:m=s.size) (hk:k=1)
  (ak:sLen+m<=sCap) (c6:sLen*k+news.length<=cur.size) :
  (Builtin.append_ #[t,u] ty #[.slice (some ⟨g,0,none⟩) sLen sCap,.string s]).run P w =
   .ok (.slice (some ⟨g,0,none⟩) (sLen+m) sCap) (w.setRow g (cur.toList.take (sLen*k)++news++cur.toList.drop (sLen*k+news.length)).toArray):=by
 subst hn hm hk
 rw [Nat.mul_one] at *
 rw [Lib.strCells_length] at *
 have hf:=Lib.run_firstCells_string (P:=P) w 1 s
 have am:=run_storeCells_at P g sLen tt (Lib.strCells s) 0 cur w hg (by simpa [Lib.strCells_length] using c6) (Lib.strCells_oneCell s)
 simp only [Nat.add_zero,Lib.strCells_length] at am
 simp [Builtin.append_,An ht,An hu,Go.sizeOf,typeInfo,hi,hs1,Builtin.lenOf,ak,hf,Addr.add_lit,am]
theorem Yo [Globs] {C:Cx} (ae:SR C) {t t' ty:TypeId} {x y av:AV} {vx vy:Value} {tk':List Nat} (hx:VR C x vx) (hy:VR C y vy) (h:apS P t t' x y C.tk=some (av,tk')) :
  ∃ v C',(Builtin.append_ #[t,t'] ty #[vx,vy]).run P C.w=.ok v C'.w/\Le C C'/\SR C'/\C'.S=C.S/\C'.tk=tk'/\C'.n=C.n/\VR C' av v:=by
 unfold apS at h
 split at h
 case h_2=>simp at h
 rename_i y0 bs
 obtain rfl:vy=.string bs:=by simpa only [VR] using hy
 clear hy
 split at h
 case isFalse=>simp at h
 rename_i am
 simp only [Bool.and_eq_true] at am
 obtain ⟨⟨am,hbt⟩,mj⟩:=am
 have mj:apT P t=some 1:=by simpa using mj
 have jy:=Eh am
 unfold apA at h
 split at h
 ·rename_i x0 y0 es c ys c2 sz j1 hT
  simp only [AV.frz.injEq] at j1
  obtain ⟨rfl,rfl⟩:=j1
  split at h
  ·rename_i hh
   obtain ⟨ag,gv,lp,ak⟩:=hh
   simp only [Option.some.injEq,Prod.mk.injEq] at h
   obtain ⟨rfl,rfl⟩:=h
   obtain ⟨e,i,z,hu,hi,hz,hsz,hpos,dx,j0,kg⟩:=Pq hT
   simp only [VR] at hx
   obtain ⟨a,len,cap,rfl,hlen,hcap,hC,hE⟩:=hx
   have jg:sz=1:=by rw [mj] at hT; simpa using hT.symm
   obtain ⟨m,cd⟩:∃ m,m=bs.size:=⟨_,rfl⟩
   have hm:(bytesL bs).length=m:=by rw [cd]; simp [bytesL]
   simp only [Aah,Bool.or_eq_true,Bool.and_eq_true,beq_iff_eq,decide_eq_true_eq] at ak
   replace ak:es.length+(bytesL bs).length<=1048576:=by omega
   have bu:∃ olds:List Value,olds.length=len*sz/\PRs C.w C.Avoid es.flatten olds/\(olds=[]\/∃ b o,a=some ⟨b,o,none⟩/\Lie C.w C.Avoid b o olds):=by
    rcases hE with rfl|⟨b,o,s',rfl,hr⟩
    ·exact ⟨[],by simp at hlen; simp [<- hlen],by simp [PRs],.inl rfl⟩
    ·by_cases hne:es=[]
     ·subst hne; exact ⟨[],by simp at hlen; simp [<- hlen],by simp [PRs],.inl rfl⟩
     ·have:=Jo hr gv hne
      subst this
      obtain ⟨l,g1,g2,g3⟩:=Dv hr
      exact ⟨l,by rw [g1,hlen],g2,.inr ⟨b,o,rfl,g3⟩⟩
   obtain ⟨olds,db,io,ja⟩:=bu
   by_cases gx:m=0
   ·-- nothing to append
    subst gx
    have j1:bytesL bs=[]:=List.eq_nil_of_length_eq_zero hm
    have p3:bs=⟨#[]⟩:=by
     obtain ⟨d⟩:=bs
     have:d.size=0:=cd.symm
     rw [Array.eq_empty_of_size_eq_zero this]
    have hrun:(Builtin.append_ #[t,t'] ty #[.slice a len cap,.string bs]).run P C.w=.ok (.slice a len cap) C.w:=by
     subst p3
     have e0:(⟨#[]⟩:ByteArray).size=0:=rfl
     cases a <;> simp [e0,Builtin.append_,An hu,An jy,Go.sizeOf,typeInfo,hi,Builtin.lenOf,Builtin.firstCells,hcap,storeCells]
    obtain ⟨b,lo,aj,hn,hc⟩:∃ b lo aj,H1 C c b lo aj/\(lo<aj->b<C.w.heap.size)/\(cap=len\/∃ cs t,a=some ⟨b,0,none⟩/\(b,lo,aj)=(b,len*sz,cap*sz)/\C.w.heap[b]?=some (.cells cs t (0,0))/\cap*sz<=cs.size):=by
     cases c with
     | unk=>simp [Aq] at ag
     | tight=>exact ⟨0,0,0,.inl (Nat.le_refl _),by omega,.inl hC⟩
     | nilc=>exact ⟨0,0,0,.inl (Nat.le_refl _),by omega,.inl hC.2⟩
     | nl=>simp [Aq] at ag
     | nn=>simp [Aq] at ag
     | tok id ep s =>
      simp only [Aq,Bool.and_eq_true,beq_iff_eq] at ag
      obtain ⟨rfl,ag⟩:=ag
      obtain ⟨k,h1,h2,h3⟩:=hC
      rw [ag] at h1; simp only [Option.some.injEq] at h1; subst h1
      rcases h3 rfl with h3|⟨b,cs,t',g1,g2,g3,g4⟩
      ·exact ⟨0,0,0,.inl (Nat.le_refl _),by omega,.inl h3⟩
      ·exact ⟨b,len*s,cap*s,.inr (.inr ⟨id,ep,s,rfl,by rw [g2],by rw [g2]; exact Nat.le_refl _,by rw [g2]; exact Nat.le_refl _⟩),fun _=>(Array.getElem?_eq_some_iff.1 g3).1,.inr ⟨cs,t',g1,rfl,g3,g4⟩⟩
    have hle:Le C (C.tok C.w c (b,lo,aj)):=Le.of_tok ag hn rfl rfl rfl (Nat.le_refl _) (fun _ _ _ h _=>h) (fun _ _ _=>rfl) (fun _ cs _ _ h=>⟨cs,h,rfl⟩)
    obtain ⟨e1,e2,e3,e4,e5,e6,-⟩:=Jb (w:=C.w) (x:=(b,lo,aj)) ag
    refine ⟨.slice a len cap,C.tok C.w c (b,lo,aj),by rw [e1]; exact hrun,hle,SR.of_tok ae ag hn hc.1 hle (fun _ _=>rfl),e4,e6,e5,?_⟩
    simp only [VR,j1,List.append_nil]
    refine ⟨a,len,cap,rfl,hlen,hcap,Gi ag hc.2,hE.imp id ?_⟩
    rintro ⟨b,o,s',rfl,hr⟩
    exact ⟨b,o,s',rfl,Ap.stays hle.stays _ _ _ _ hr⟩
   ·-- the new cells
    obtain ⟨news,b6⟩:∃ l,l=Lib.strCells bs:=⟨_,rfl⟩
    have bv:news.length=m*sz:=by rw [b6,Lib.strCells_length,cd,jg,Nat.mul_one]
    have hn2:PRs C.w C.Avoid (bytesL bs).flatten news:=by
     rw [b6]
     unfold bytesL Lib.strCells
     generalize bs.data.toList=l
     induction l with
     | nil=>simp [PRs]
     | cons x l ih=>simp only [List.map_cons,List.flatten_cons,List.cons_append,List.nil_append,PRs]; exact ⟨by simp [PR,Value.oneCell'],ih⟩
    have gz:=Pj hn2
    have dn:∀ e ∈ es++bytesL bs,e.length=sz:=fun x hx=>by
     rcases List.mem_append.1 hx with hx|hx
     ·exact Ju gv x hx
     ·exact Ju lp x hx
    by_cases ba:(∃ id ep s b cs tt,c=.tok id ep s/\nth C.tk id=some ep/\s=sz/\a=some ⟨b,0,none⟩/\C.ψ id=(b,len*sz,cap*sz)/\C.w.heap[b]?=some (.cells cs tt (0,0))/\cap*sz<=cs.size)/\len+m<=cap
    ·-- in place
     obtain ⟨⟨id,ep,s,b,arr,tt,rfl,hid,rfl,rfl,hψ,hb,c6⟩,bz⟩:=ba
     have ej:(len+m)*s<=cap*s:=Nat.mul_le_mul_right _ bz
     have mf:(len+m)*s=len*s+m*s:=Nat.add_mul _ _ _
     have me:0<m*s:=Nat.mul_pos (by omega) hpos
     have hrun:=Nc (P:=P) C.w t t' ty e i hu jy hi (hsz.trans jg) b len cap tt arr hb bs news m s b6 cd jg bz (by rw [bv]; omega)
     generalize hA:(arr.toList.take (len*s)++news++arr.toList.drop (len*s+news.length)).toArray=arr' at hrun
     have co:arr'.size=arr.size:=by rw [<- hA]; simp; omega
     have jb:∀ o,(o<len*s\/(len+m)*s<=o)->arr'[o]?=arr[o]?:=by
      intro o ho
      rw [<- hA]
      simp only [List.getElem?_toArray]
      rcases ho with ho|ho
      ·rw [List.append_assoc,List.getElem?_append_left (by simp; omega),List.getElem?_take_of_lt ho]; simp
      ·rw [List.getElem?_append_right (by simp; omega),List.getElem?_drop,<- Array.getElem?_toList]
       congr 1
       simp
       omega
     have hlt:b<C.w.heap.size:=(Array.getElem?_eq_some_iff.1 hb).1
     have bc:=A7 hid
     have d6:∀ o,len*s<=o->o<cap*s->C.Mut b o:=fun o h1 h2=>.inr ⟨id,bc,by rw [hψ],by rw [hψ]; exact h1,by rw [hψ]; exact h2⟩
     have hn:H1 C (.tok id ep s) b ((len+m)*s) (cap*s):=.inr (.inr ⟨id,ep,s,rfl,by rw [hψ],by rw [hψ]; simp only; omega,by rw [hψ]; exact Nat.le_refl _⟩)
     have hle:Le C (C.tok (C.w.setRow b arr') (.tok id ep s) (b,(len+m)*s,cap*s)):=by
      refine Le.of_tok ag hn rfl rfl rfl (by simp) ?_ ?_ ?_
      ·intro x o v hv dg
       by_cases fk:x=b
       ·subst fk
        have:o<len*s\/(len+m)*s<=o:=by
         rcases Nat.lt_or_ge o (len*s) with h|h
         ·exact .inl h
         ·right
          rcases Nat.lt_or_ge o (cap*s) with h'|h'
          ·exact absurd (d6 o h h') dg
          ·omega
        have h1:=setRow_heap C.w x arr arr' tt (0,0) hb
        simp only [World.cell?,hb] at hv
        simp only [World.cell?,h1,jb o this]
        exact hv
       ·simpa [World.cell?,setRow_other C.w b x arr' fk] using hv
      ·intro x _ dg
       refine setRow_other C.w b x arr' fun h=>dg (len*s) (h ▸ d6 _ (Nat.le_refl _) (by omega))
      ·intro x d t'' fz hd
       by_cases fk:x=b
       ·subst fk
        rw [hb] at hd
        simp only [Option.some.injEq,Obj.cells.injEq] at hd
        obtain ⟨rfl,rfl,rfl⟩:=hd
        exact ⟨arr',setRow_heap _ _ _ _ _ _ hb,co⟩
       ·exact ⟨d,by rw [setRow_other _ _ _ _ fk]; exact hd,rfl⟩
     obtain ⟨e1,e2,e3,e4,e5,e6,e7,e8,e9,e10,e11⟩:=Jb (w:=C.w.setRow b arr') (x:=(b,(len+m)*s,cap*s)) ag
     have d7:=SR.of_tok ae ag hn (fun _=>by simpa using hlt) hle (fun i hi=>setRow_other _ _ _ _ fun h=>ae.apart i id (len*s) hi bc (by rw [hψ]; exact h) (by rw [hψ]; exact Nat.le_refl _) (by rw [hψ]; simp only; omega))
     refine ⟨.slice (some ⟨b,0,none⟩) (len+m) cap,_,by rw [e1]; exact hrun,hle,d7,e4,e6,e5,?_⟩
     have fa:(C.w.setRow b arr').heap[b]?=some (.cells arr' tt (0,0)):=setRow_heap _ _ _ _ _ _ hb
     simp only [VR]
     refine ⟨_,len+m,cap,rfl,by simp; omega,bz,Gi ag (.inr ⟨arr',tt,rfl,rfl,fa,by omega⟩),.inr ⟨b,0,s,rfl,?_⟩⟩
     have am:=hle.stays
     refine Dk (l:=olds++news) dn (by rw [List.flatten_append]; exact Eb (PRs.stays am _ _ io) (PRs.stays am _ _ hn2)) (G0 fun j v hj=>?_)
     rw [Nat.zero_add]
     rcases Nat.lt_or_ge j olds.length with g9|g9
     ·rw [List.getElem?_append_left g9] at hj
      rcases ja with rfl|⟨b',o',ha,hl⟩
      ·simp at g9
      ·simp only [Option.some.injEq,Addr.mk.injEq,and_true] at ha
       obtain ⟨rfl,rfl⟩:=ha
       have:=Gy (hl.stays am) j v hj
       simpa using this
     ·rw [List.getElem?_append_right g9] at hj
      have lq:=(List.getElem?_eq_some_iff.1 hj).1
      have h1:len*s<=j:=by omega
      have h2:j<(len+m)*s:=by omega
      constructor
      ·rw [e1]
       simp only [World.cell?,fa]
       have:arr'[j]?=some v:=by
        rw [<- hA]
        simp only [List.getElem?_toArray]
        rw [List.getElem?_append_left (by simp; omega),List.getElem?_append_right (by simp; omega)]
        rw [<- hj]; congr 1; simp; omega
       simpa using this
      ·rintro (bp|⟨k,hk,hφ⟩|⟨k,hk,g1,g2,g3⟩)
       ·rw [e2] at bp
        exact ae.own b j (d6 j h1 (by omega)) bp
       ·rw [e4] at hk; rw [e3] at hφ
        exact ae.apart k id j hk bc (by rw [hψ]; exact hφ) (by rw [hψ]; exact h1) (by rw [hψ]; simp only; omega)
       ·rw [e7] at g1 g2 g3
        dsimp only at g1 g2 g3
        by_cases dh:k=id
        ·rw [if_pos (show k=Em C (.tok id ep s) from dh)] at g1 g2 g3
         simp only at g2; omega
        ·rw [if_neg (show ¬ k=Em C (.tok id ep s) from dh)] at g1 g2 g3
         have jc:=(e10 k hk).resolve_left dh
         exact dh (ae.tok k id j jc bc (by rw [hψ]; exact g1) g2 g3 (by rw [hψ]; exact h1) (by rw [hψ]; simp only; omega))
    ·-- a new block
     have bq:cap<len+m:=by
      rcases Nat.lt_or_ge cap (len+m) with h|h
      ·exact h
      ·exfalso
       cases c with
       | unk=>simp [Aq] at ag
       | tight=>have:cap=len:=hC; omega
       | nilc=>have:cap=len:=hC.2; omega
       | nl=>simp [Aq] at ag
       | nn=>simp [Aq] at ag
       | tok id ep s =>
        simp only [Aq,Bool.and_eq_true,beq_iff_eq] at ag
        obtain ⟨rfl,ag⟩:=ag
        obtain ⟨k,h1,h2,h3⟩:=hC
        rw [ag] at h1; simp only [Option.some.injEq] at h1; subst h1
        rcases h3 rfl with h3|⟨b,cs,t',g1,g2,g3,g4⟩
        ·omega
        ·exact ba ⟨⟨id,ep,s,b,cs,t',rfl,ag,rfl,g1,g2,g3,g4⟩,h⟩
     have ej:len*sz+m*sz=(len+m)*sz:=(Nat.add_mul _ _ _).symm
     have bk:(len+m)*i.bytes<=140737488355328:=by
      have:(len+m)*i.bytes<=1048576*1048576:=Nat.mul_le_mul (by omega) j0
      omega
     obtain ⟨ncap,zs,hrun,dk,hzl⟩:∃ ncap zs,(Builtin.append_ #[t,t'] ty #[.slice a len cap,.string bs]).run P C.w=.ok (.slice (some ⟨C.w.heap.size,0,none⟩) (len+m) ncap) (C.w.drew.alloc (.cells (olds++news++zs).toArray e))/\len+m<=ncap/\zs.length=(ncap - (len+m))*sz:=by
      cases a with
      | none =>
       have fl:len=0:=by
        rcases ja with h|⟨b,o,h,-⟩
        ·rw [h] at db
         simp only [List.length_nil] at db
         rcases Nat.mul_eq_zero.1 db.symm with h|h
         ·exact h
         ·omega
        ·simp at h
       have fm:cap=0:=by
        cases c with
        | unk=>simp [Aq] at ag
        | tight=>have:cap=len:=hC; omega
        | nilc=>have:cap=len:=hC.2; omega
        | nl=>simp [Aq] at ag
        | nn=>simp [Aq] at ag
        | tok id ep s =>
         simp only [Aq,Bool.and_eq_true,beq_iff_eq] at ag
         obtain ⟨k,h1,h2,h3⟩:=hC
         rw [ag.2] at h1; simp only [Option.some.injEq] at h1; subst h1
         rcases h3 rfl with h3|⟨b,cs,t',g1,-⟩
         ·omega
         ·simp at g1
       subst fl fm
       have ho:olds=[]:=List.eq_nil_of_length_eq_zero (by simpa using db)
       subst ho
       have:=Lib.run_append_nil_str (P:=P) C.w t t' ty e i z hu jy hi hz bs (by rw [<- cd]; omega) (by rw [<- cd]; omega) (by rw [<- cd]; simp only [Nat.zero_add] at bk; omega)
       rw [<- cd,<- b6] at this
       refine ⟨grownCap C.w m 0 e,(Builtin.zeroCells z.cells (grownCap C.w m 0 e - m)).toList,?_,by have:=grownCap_ge C.w m 0 e; omega,by simp [size_zeroCells,dx]⟩
       rw [this]
       simp only [Nat.zero_add,List.nil_append]
       congr 3
       apply Array.ext'; simp
      | some ad =>
       obtain ⟨b,o,hab,hcells⟩:∃ b o,(olds=[]\/ad=⟨b,o,none⟩)/\∀ (j:Nat) v,olds[j]?=some v->C.w.cell? (ad.add j)=some v:=by
        rcases ja with rfl|⟨b,o,h,hl⟩
        ·exact ⟨0,0,.inl rfl,by simp⟩
        ·simp only [Option.some.injEq] at h; subst h
         exact ⟨b,o,.inr rfl,fun j v hj=>by rw [A2]; exact (Gy hl j v hj).1⟩
       have:=Lib.run_append_grow_string (P:=P) C.w t t' ty e i z hu jy hi hz ad len cap olds (by rw [hsz]; exact db) hcells bs (by rw [<- cd]; exact bq) (by rw [<- cd]; omega) (by rw [<- cd]; exact growslice_fits bq bk)
       rw [<- cd,<- b6] at this
       refine ⟨grownCap C.w (len+m) cap e,(Builtin.zeroCells z.cells (grownCap C.w (len+m) cap e - (len+m))).toList,?_,grownCap_ge C.w (len+m) cap e,by simp [size_zeroCells,dx]⟩
       rw [this]
       congr 3
       apply Array.ext'; simp
     have hbel:Below C.w.heap.size C.w (C.w.drew.alloc (.cells (olds++news++zs).toArray e)):=((Below.refl _ _).drew).alloc (by simp) _
     have jd:(C.w.drew.alloc (.cells (olds++news++zs).toArray e)).heap[C.w.heap.size]?=some (.cells (olds++news++zs).toArray e (0,0)):=Aa C.w.drew _
     have hn:H1 C c C.w.heap.size ((len+m)*sz) (ncap*sz):=.inr (.inl (Nat.le_refl _))
     have hle:Le C (C.tok (C.w.drew.alloc (.cells (olds++news++zs).toArray e)) c (C.w.heap.size,(len+m)*sz,ncap*sz)) :=
      Le.of_tok ag hn hbel.os hbel.tape hbel.output hbel.size (fun b o v hv _=>by rw [Below.cell hbel (Dg hv)]; exact hv) (fun b hb _=>hbel.block b hb) (fun b cs t fz hb=>⟨cs,A5 hbel hb,rfl⟩)
     have d7:=SR.of_tok ae ag hn (fun _=>(Array.getElem?_eq_some_iff.1 jd).1) hle (fun i hi=>hbel.block _ (J2 ae hi))
     obtain ⟨e1,e2,e3,e4,e5,e6,e7,e8,e9,e10,e11⟩:=Jb (w:=C.w.drew.alloc (.cells (olds++news++zs).toArray e)) (x:=(C.w.heap.size,(len+m)*sz,ncap*sz)) ag
     refine ⟨_,_,by rw [e1]; exact hrun,hle,d7,e4,e6,e5,?_⟩
     have mg:(ncap - (len+m))*sz=ncap*sz - (len+m)*sz:=Nat.sub_mul _ _ _
     have hnn:(len+m)*sz<=ncap*sz:=Nat.mul_le_mul_right _ dk
     simp only [VR]
     refine ⟨_,len+m,ncap,rfl,by simp; omega,dk,Gi ag (.inr ⟨_,e,rfl,rfl,jd,by simp; omega⟩),.inr ⟨C.w.heap.size,0,sz,rfl,?_⟩⟩
     have am:=hle.stays
     refine Dk (l:=olds++news) dn (by rw [List.flatten_append]; exact Eb (PRs.stays am _ _ io) (PRs.stays am _ _ hn2)) (G0 fun j v hj=>?_)
     rw [Nat.zero_add]
     have ia:j<(len+m)*sz:=by
      have:=(List.getElem?_eq_some_iff.1 hj).1
      simp at this; omega
     constructor
     ·rw [e1]
      simp only [World.cell?,jd]
      have je:j<(olds++news).length:=(List.getElem?_eq_some_iff.1 hj).1
      have:(olds++news++zs)[j]?=some v:=by rw [List.getElem?_append_left je]; exact hj
      simpa using this
     ·rintro (bp|bm)
      ·rw [e2] at bp
       have:=ae.avlt _ _ bp; omega
      ·rcases Lj ag hn bm with h|⟨-,h1,h2,-⟩
       ·exact ae.fresh (Nat.le_refl _) (.inr h)
       ·omega
  ·simp at h
 ·simp at h
theorem Hx:∀ {n:Nat} {cs:List AV},n<=cs.length->takeN n cs=some (cs.take n)
 | 0,_,_=>by simp [takeN]
 | n+1,[],h=>by simp at h
 | n+1,c :: cs,h=>by simp only [takeN,Hx (n:=n) (cs:=cs) (by simpa using h),Option.map_some,List.take_succ_cons]
theorem Ht {sz:Nat} : ∀ {n:Nat} {cs:List AV} {es:List (List AV)},E8 sz n cs=some es->es.length=n/\(∀ e ∈ es,e.length=sz)/\es.flatten=cs.take (n*sz)/\n*sz<=cs.length
 | 0,cs,es,h=>by simp only [E8,Option.some.injEq] at h; subst h; simp
 | n+1,cs,es,h=>by
  simp only [E8] at h
  split at h
  ·rename_i e es' h1 h2
   simp only [Option.some.injEq] at h; subst h
   obtain ⟨g1,g2,g3,g4⟩:=Ht h2
   obtain ⟨rfl,k2⟩:=Aaz h1
   have hm:(n+1)*sz=sz+n*sz:=by rw [Nat.add_mul,Nat.one_mul,Nat.add_comm]
   refine ⟨by simp [g1],fun e he=>?_,?_,?_⟩
   ·rcases List.mem_cons.1 he with rfl|he
    ·simp; omega
    ·exact g2 e he
   ·rw [List.flatten_cons,g3,hm,List.take_add]
   ·rw [hm]; simp at g4; omega
  ·simp at h
theorem Yn [Globs] {C:Cx} (ae:SR C) {t ty:TypeId} {x y av:AV} {vx vy:Value} {tk':List Nat} (hx:VR C x vx) (hy:VR C y vy) (h:apR P t x y C.tk C.S=some (av,tk')) :
  ∃ v C',(Builtin.append_ #[t,t] ty #[vx,vy]).run P C.w=.ok v C'.w/\Le C C'/\SR C'/\C'.S=C.S/\C'.tk=tk'/\C'.n=C.n/\VR C' av v:=by
 unfold apR at h
 split at h
 ·rename_i id ep off len sz
  split at h
  ·rename_i cs cw
   split at h
   ·rename_i es gt
    split at h
    ·rename_i hp
     refine Q2 ae hx rfl ?_ h
     obtain ⟨e,h1,h2,rfl⟩:=Bw cw
     simp only [VR] at hy
     obtain ⟨b,a,cap,rfl,hcap,ha,hn,hb⟩:=hy
     obtain rfl:=(hb e h1 h2).1
     obtain ⟨hlt,arr,tt,h3,h4⟩:=ae.ent id e h1
     obtain ⟨p,h4⟩:=entP h4
     obtain ⟨g1,g2,g3,g4⟩:=Ht gt
     have g4':len*sz<=((e.cells++p).drop off).length:=by simp at g4 ⊢; omega
     have g3':es.flatten=((e.cells++p).drop off).take (len*sz):=by rw [g3,List.drop_append,List.take_append_of_le_length g4]
     refine ⟨a,len,cap,rfl,by simp [g1],?_⟩
     by_cases h0:len=0
     ·exact .inl h0
     ·right
      obtain rfl:=ha.resolve_left h0
      have i8:=Ah h4
      simp only [Array.length_toList] at i8
      have fo:VRs C (((e.cells++p).drop off).take (len*sz)) ((arr.toList.drop off).take (len*sz)):=(Gg (Hm off h4) (Hx g4')).1
      have dp:(es.map (·.map w1)).flatten=(((e.cells++p).drop off).take (len*sz)).map w1:=by rw [<- g3',List.map_flatten]
      refine ⟨C.φ id,off,(arr.toList.drop off).take (len*sz),rfl,?_,fun j v hj=>?_⟩
      ·rw [dp]
       refine Ew ?_ (Nm fo)
       rw [<- g3',List.all_eq_true]
       intro c hc
       rw [List.mem_map] at hc
       obtain ⟨c',az,rfl⟩:=hc
       rw [List.mem_flatten] at az
       obtain ⟨r,hr,az⟩:=az
       exact List.all_eq_true.1 (List.all_eq_true.1 hp r hr) c' az
      ·have bg:j<len*sz:=by
        have:=(List.getElem?_eq_some_iff.1 hj).1
        simp at this; omega
       rw [List.getElem?_take_of_lt bg,List.getElem?_drop] at hj
       simp [World.cell?,h3]; simpa using hj
    ·simp at h
   ·simp at h
  ·simp at h
 ·simp at h
theorem Ws [Globs] {C:Cx} (ae:SR C) {t ty:TypeId} {x y av:AV} {vx vy:Value} {tk':List Nat} (hx:VR C x vx) (hy:VR C y vy) (h:apB1 P t x y C.tk C.S=some (av,tk')) :
  ∃ v C',(Builtin.append_ #[t,t] ty #[vx,vy]).run P C.w=.ok v C'.w/\Le C C'/\SR C'/\C'.S=C.S/\C'.tk=tk'/\C'.n=C.n/\VR C' av v:=by
 unfold apB1 at h
 split at h
 ·exact Yn ae hx hy h
 ·exact Yl ae hx hy h
end
end Go.Proofs.YthelkgdmgihhiaaGreatDoor
