/-
 A book of spaces,plain: pages outside of it;what an error keeps;without refusals no frame is idle.
 A book of spaces,plain: views at a place;writes.
 A book of spaces,plain: what a space reads.
-/
import Derived.Test.YtphggldkligldaaSnA
set_option linter.unusedSimpArgs false
set_option linter.unusedVariables false
namespace Go.Pol
open Go.Am Go.Proofs.Ytphggldkligldaa.Sh
section
variable {b:Bk}
def OutB (b:Bk):Prop:=∀ p,¬ (b.a≤p∧p < b.a+b.n)→b.s.K p=0
theorem out_giv (h:GoodB b) (ho:OutB b) {G:List Nat} (hG:∀ f ∈ G,f < 1024∧b.s.K f=2∧b.s.M f=false) (hn:G.Nodup) (hr:∀ f ∈ G,b.a≤f∧f < b.a+b.n):∀ p,¬ (b.a≤p∧p < b.a+b.n)→(givP b.s G).K p=0:=fun p hp=>by
 rw [((giv_spec h.good hG hn).2.2.1 p fun hg=>hp (hr p hg)).1];exact ho p hp
theorem gone_rng (h:GoodB b) (x:Nat):∀ f ∈ goneL b.L x,b.a≤f∧f < b.a+b.n:=fun f hf=>by
 obtain ⟨h1,⟨v,hv,h2,h3⟩,h4⟩:=gone_mem.1 hf
 obtain ⟨w1,w2,w3⟩:=h.view hv
 exact ⟨h3▸w1,h3▸w2⟩
theorem out_gone (h:GoodB b) (ho:OutB b) (x:Nat):∀ p,¬ (b.a≤p∧p < b.a+b.n)→(givP b.s (goneL b.L x)).K p=0:=out_giv h ho (gone_ok h x) gone_nodup (gone_rng h x)
theorem out_drop (h:GoodB b) (ho:OutB b) (x:Int):OutB (b.drop x).2.2:=by
 unfold Bk.drop
 split
 ·exact ho
 ·show OutB { b with L:=noA x.toNat b.L,s:=givP b.s (goneL b.L x.toNat) }
  intro p hp
  dsimp only at hp ⊢
  exact out_gone h ho x.toNat p hp
theorem isR_nilE {C:Nat→Int} {k:Nat}:isR [] C k=false:=by unfold isR refL;split<;>rfl
structure Tight (b:Bk):Prop where
 l:b.s.l=[]
 no:∀ f,b.a≤f→f < b.a+b.n→b.s.K f=2→0 < cntF b.L f
theorem giv_tight:∀ {G:List Nat} {s:Sy},s.l=[]→(∀ f ∈ G,f < 1024∧s.K f=2∧s.M f=false)→G.Nodup→(givP s G).l=[]∧∀ p,(givP s G).K p=if p ∈ G then 1 else s.K p
 | [],s,hl,_,_=>⟨hl,fun p=>by rw [if_neg (by simp)];rfl⟩
 | f::G,s,hl,h,hn=>by
  obtain ⟨hf,hk,hm⟩:=h f (List.mem_cons_self ..)
  rw [List.nodup_cons] at hn
  show (givP (s.chg (f:Nat) 1 2 1 3).2 G).l=[]∧∀ p,(givP (s.chg (f:Nat) 1 2 1 3).2 G).K p=_
  have hc:s.chg (f:Nat) 1 2 1 3=(0,s.turn f 1 3):=by rw [chg_one hf hk hm,hl,isR_nilE];rfl
  rw [hc]
  obtain ⟨i1,i2⟩:=giv_tight (G:=G) (s:=s.turn f 1 3) hl (fun g hgm=>by
   obtain ⟨a1,a2,a3⟩:=h g (List.mem_cons_of_mem _ hgm)
   exact ⟨a1,by rw [turn_K,if_neg (fun e:g=f=>hn.1 (e▸hgm))];exact a2,a3⟩) hn.2
  refine ⟨i1,fun p=>?_⟩
  rw [i2,turn_K]
  by_cases e:p=f
  ·subst e;rw [if_neg hn.1,if_pos rfl,if_pos (List.mem_cons_self ..)]
  ·rw [if_neg e]
   by_cases e2:p ∈ G
   ·rw [if_pos e2,if_pos (List.mem_cons_of_mem _ e2)]
   ·rw [if_neg e2,if_neg fun hc=>(List.mem_cons.1 hc).elim e e2]
theorem tight_gone (h:GoodB b) (ht:Tight b) (x:Nat) {L':List Vw} (hc:∀ f,0 < cntF (noA x b.L) f→0 < cntF L' f):Tight { b with L:=L',s:=givP b.s (goneL b.L x) }:=by
 obtain ⟨g1,g2⟩:=giv_tight ht.l (gone_ok h x) gone_nodup
 refine ⟨g1,fun f h1 h2 hk=>?_⟩
 dsimp only at h1 h2 hk
 rw [g2] at hk
 by_cases e:f ∈ goneL b.L x
 ·rw [if_pos e] at hk;exact absurd hk (by decide)
 ·rw [if_neg e] at hk
  refine hc f (Classical.byContradiction fun h0=>e (gone_mem.2 ?_))
  have hr:=h.rng
  obtain ⟨u,hu,eu⟩:=cnt_posE.1 (ht.no f h1 h2 hk)
  refine ⟨by omega,⟨u,hu,Classical.byContradiction fun hne=>h0 (cnt_posE.2 ⟨u,mem_noA.2 ⟨hu,hne⟩,eu⟩),eu⟩,by omega⟩
theorem tight_drop (h:GoodB b) (ht:Tight b) (x:Int):Tight (b.drop x).2.2:=by
 unfold Bk.drop
 split
 ·exact ht
 ·show Tight { b with L:=noA x.toNat b.L,s:=givP b.s (goneL b.L x.toNat) }
  exact tight_gone h ht x.toNat fun f hf=>hf
end
end Go.Pol
namespace Go.Pol
open Go.Am Go.Proofs.Ytphggldkligldaa.Sh
theorem set_split {g:Vw→Vw} {A B:List Vw} {v:Vw} (hs:srt (A++v::B)):setL g v.1 v.2.1 (A++v::B)=A++g v::B:=by
 have hne:=mid_ne hs
 unfold setL
 rw [List.map_append,List.map_cons,if_pos ⟨rfl,rfl⟩]
 congr 1
 ·conv=>rhs;rw [← List.map_id A]
  exact List.map_congr_left fun w hw=>if_neg (hne.1 w hw)
 ·congr 1
  conv=>rhs;rw [← List.map_id B]
  exact List.map_congr_left fun w hw=>if_neg (hne.2 w hw)
theorem del_split {A B:List Vw} {v:Vw} (hs:srt (A++v::B)):delL (A++v::B) v.1 v.2.1=A++B:=by
 have hne:=mid_ne hs
 unfold delL
 rw [List.filter_append,List.filter_cons,if_neg (by simp [atV])]
 congr 1
 ·exact List.filter_eq_self.2 fun w hw=>by simpa using hne.1 w hw
 ·exact List.filter_eq_self.2 fun w hw=>by simpa using hne.2 w hw
section
variable {b:Bk}
theorem cnt_pr {A B:List Vw} {v:Vw} {w:Bool} {f:Nat}:cntF (A++prV w v::B) f=cntF (A++v::B) f:=by
 rw [cnt_app,cnt_app,cnt_cons,cnt_cons];rfl
theorem cnt_fr {A B:List Vw} {v:Vw} {f p:Nat}:cntF (A++frV f v::B) p+(if v.2.2.1=p then 1 else 0)=cntF (A++v::B) p+if f=p then 1 else 0:=by
 rw [cnt_app,cnt_app,cnt_cons,cnt_cons]
 show cntF A p+((if f=p then 1 else 0)+cntF B p)+_=_
 omega
end
end Go.Pol
namespace Go.Pol
open Go.Am Go.Proofs.Ytphggldkligldaa.Sh
def Bk.rd (b:Bk) (a k j:Nat):Option Int:=(fndL b.L a k).map fun v=>b.s.B v.2.2.1 j
theorem fnd_of {M:List Vw} (hs:srt M) {v:Vw} {a k:Nat} (hv:v ∈ M) (h1:v.1=a) (h2:v.2.1=k):fndL M a k=some v:=by
 rw [← h1,← h2];exact fnd_yes hs hv
theorem fnd_noA {L:List Vw} (hs:srt L) (x a k:Nat):fndL (noA x L) a k=if x=a then none else fndL L a k:=by
 have hs2:srt (noA x L):=hs.sublist List.filter_sublist
 split
 ·rename_i h
  exact fnd_no fun u hu hau=>(mem_noA.1 hu).2 (hau.1.trans h.symm)
 ·rename_i h
  cases hf:fndL L a k with
  | none=>exact fnd_no fun u hu hau=>fnd_none hf u (mem_noA.1 hu).1 hau
  | some u =>
   obtain ⟨h1,h2⟩:=fnd_some hf
   exact fnd_of hs2 (mem_noA.2 ⟨h1,fun e=>h (e.symm.trans h2.1)⟩) h2.1 h2.2
theorem fnd_frk {L:List Vw} (hs:srt L) {x y:Nat} (hxy:x ≠ y) (hy:ofA y L=[]) (a k:Nat):fndL (frkL x y L) a k=if a=y then (fndL L x k).map (cpV y) else (fndL L a k).map (wnV x):=by
 have hs2:=frk_srt (x:=x) hs hy
 have hny:∀ v ∈ L,v.1 ≠ y:=fun v hv e=>by
  have : v ∈ ofA y L:=mem_ofA.2 ⟨hv,e⟩
  rw [hy] at this;cases this
 split
 ·rename_i h
  subst h
  cases hf:fndL L x k with
  | none =>
   refine fnd_no fun u hu hau=>?_
   rcases frk_mem.1 hu with ⟨w,hw,rfl⟩ | ⟨w,hw,h1,rfl⟩
   ·exact hny w hw hau.1
   ·exact fnd_none hf w hw ⟨h1,hau.2⟩
  | some u =>
   obtain ⟨h1,h2⟩:=fnd_some hf
   exact fnd_of hs2 (frk_mem.2 (.inr ⟨u,h1,h2.1,rfl⟩)) rfl h2.2
 ·rename_i h
  cases hf:fndL L a k with
  | none =>
   refine fnd_no fun u hu hau=>?_
   rcases frk_mem.1 hu with ⟨w,hw,rfl⟩ | ⟨w,hw,h1,rfl⟩
   ·exact fnd_none hf w hw hau
   ·exact h hau.1.symm
  | some u =>
   obtain ⟨h1,h2⟩:=fnd_some hf
   exact fnd_of hs2 (frk_mem.2 (.inl ⟨u,h1,rfl⟩)) h2.1 h2.2
section
variable {b:Bk}
theorem giv_B (h:GoodB b) {G:List Nat} (hG:∀ f ∈ G,f < 1024∧b.s.K f=2∧b.s.M f=false) (hn:G.Nodup) {f:Nat} (hf:f ∉ G):(givP b.s G).B f=b.s.B f:=((giv_spec h.good hG hn).2.2.1 f hf).2
theorem take_rd (h:GoodB b) (x y:Int) (he:(b.take x y).2.1=0):inR 64 x∧inR 64 y∧x ≠ y∧∀ a c j,(b.take x y).2.2.rd a c j=if a=y.toNat then b.rd x.toNat c j else b.rd a c j:=by
 unfold Bk.take at he ⊢
 split at he
 ·exact absurd he (by decide:¬ (7:Int)=0)
 rename_i hin
 have hin2:inR 64 x∧inR 64 y:=Classical.not_not.1 hin
 rw [if_neg hin]
 split at he
 ·exact absurd he (by decide:¬ (2:Int)=0)
 rename_i hxy
 rw [if_neg hxy]
 split at he
 ·exact absurd he (by decide:¬ (8:Int)=0)
 rename_i h8
 rw [if_neg h8]
 split at he
 ·exact absurd he (by decide:¬ (5:Int)=0)
 rename_i h5
 rw [if_neg h5]
 refine ⟨hin2.1,hin2.2,hxy,fun a c j=>?_⟩
 have hx0:=hin2.1.1;have hx1:=hin2.1.2;have hy0:=hin2.2.1;have hy1:=hin2.2.2
 have hne:x.toNat ≠ y.toNat:=by omega
 have hf:=fnd_frk h.sr hne (List.eq_nil_of_length_eq_zero (by omega)) a c
 unfold Bk.rd
 dsimp only
 rw [hf]
 split
 ·cases fndL b.L x.toNat c<;>rfl
 ·cases fndL b.L a c<;>rfl
theorem gone_B (h:GoodB b) (x:Nat) {u:Vw} (hu:u ∈ noA x b.L):(givP b.s (goneL b.L x)).B u.2.2.1=b.s.B u.2.2.1:=giv_B h (gone_ok h x) gone_nodup fun hg=>by
 have:=(gone_mem.1 hg).2.2
 have : 0 < cntF (noA x b.L) u.2.2.1:=cnt_posE.2 ⟨u,hu,rfl⟩
 omega
theorem revert_rd (h:GoodB b) (x y:Int) (he:(b.revert x y).2.1=0):inR 64 x∧inR 64 y∧x ≠ y∧∀ a c j,(b.revert x y).2.2.rd a c j=if a=x.toNat then b.rd y.toNat c j else b.rd a c j:=by
 unfold Bk.revert at he ⊢
 split at he
 ·exact absurd he (by decide:¬ (7:Int)=0)
 rename_i hin
 have hin2:inR 64 x∧inR 64 y:=Classical.not_not.1 hin
 rw [if_neg hin]
 split at he
 ·exact absurd he (by decide:¬ (2:Int)=0)
 rename_i hxy
 rw [if_neg hxy]
 split at he
 ·exact absurd he (by decide:¬ (5:Int)=0)
 rename_i h5
 rw [if_neg h5]
 refine ⟨hin2.1,hin2.2,hxy,fun a c j=>?_⟩
 have hx0:=hin2.1.1;have hx1:=hin2.1.2;have hy0:=hin2.2.1;have hy1:=hin2.2.2
 have hne:y.toNat ≠ x.toNat:=by omega
 have hs:srt (noA x.toNat b.L):=h.sr.sublist List.filter_sublist
 have hf:=fnd_frk hs hne ofA_self a c
 have hf2:=fnd_noA h.sr x.toNat
 unfold Bk.rd
 dsimp only
 rw [hf]
 split
 ·rw [hf2,if_neg hne.symm]
  cases hq:fndL b.L y.toNat c with
  | none=>simp only [Option.map_none]
  | some w =>
   obtain ⟨hw,hwa⟩:=fnd_some hq
   simp only [Option.map_some,cpV];rw [gone_B h x.toNat (mem_noA.2 ⟨hw,fun e2=>hne (hwa.1.symm.trans e2)⟩)]
 ·rename_i e
  rw [hf2,if_neg (Ne.symm e)]
  cases hq:fndL b.L a c with
  | none=>simp only [Option.map_none]
  | some w =>
   obtain ⟨hw,hwa⟩:=fnd_some hq
   simp only [Option.map_some,wnV];rw [gone_B h x.toNat (mem_noA.2 ⟨hw,fun e2=>e (hwa.1.symm.trans e2)⟩)]
end
end Go.Pol
