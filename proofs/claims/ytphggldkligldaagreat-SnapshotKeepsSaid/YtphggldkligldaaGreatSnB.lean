/-
 A book of spaces,plain: pages outside of it;what an error keeps;without refusals no frame is idle.
 A book of spaces,plain: views at a place;writes.
 A book of spaces,plain: what a space reads.
-/
import Derived.Test.YtphggldkligldaaGreatSnA
set_option linter.unusedSimpArgs false
set_option linter.unusedVariables false
namespace Go.Pol
open Go.Am Go.Proofs.YtphggldkligldaaGreat.Sh
section
variable {b:Bk}
def OutB (b:Bk):Prop:=∀ p,¬ (b.a≤p∧p < b.a+b.n)→b.s.K p=0
theorem out_giv (h:GoodB b) (ho:OutB b) {G:List Nat} (hG:∀ f ∈ G,f < 1024∧b.s.K f=2∧b.s.M f=false) (hn:G.Nodup) (hr:∀ f ∈ G,b.a≤f∧f < b.a+b.n):∀ p,¬ (b.a≤p∧p < b.a+b.n)→(givP b.s G).K p=0:=fun p hp=>by
 rw [((giv_spec h.good hG hn).2.2.1 p fun hg=>hp (hr p hg)).1];exact ho p hp
theorem gone_rng (h:GoodB b) (x:Nat):∀ f ∈ goneL b.L x,b.a≤f∧f < b.a+b.n:=fun f hf=>by
 obtain ⟨h1,⟨v,hv,h2,h3⟩,h4⟩:=gone_mem.1 hf
 obtain ⟨w1,w2,w3⟩:=h.view hv
 exact ⟨h3▸w1,h3▸w2⟩
theorem out_gone (h:GoodB b) (ho:OutB b) (x:Nat):∀ p,¬ (b.a≤p∧p < b.a+b.n)→(givP b.s (goneL b.L x)).K p=0:=out_giv h ho (gone_ok h x) gone_nodup (gone_rng h x)
theorem out_drop (h:GoodB b) (ho:OutB b) (x:Int):OutB (b.drop x).2.2:=by
 unfold Bk.drop
 split
 ·exact ho
 ·show OutB { b with L:=noA x.toNat b.L,s:=givP b.s (goneL b.L x.toNat) }
  intro p hp
  dsimp only at hp ⊢
  exact out_gone h ho x.toNat p hp
theorem isR_nilE {C:Nat→Int} {k:Nat}:isR [] C k=false:=by unfold isR refL;split<;>rfl
structure Tight (b:Bk):Prop where
 l:b.s.l=[]
 no:∀ f,b.a≤f→f < b.a+b.n→b.s.K f=2→0 < cntF b.L f
theorem giv_tight:∀ {G:List Nat} {s:Sy},s.l=[]→(∀ f ∈ G,f < 1024∧s.K f=2∧s.M f=false)→G.Nodup→(givP s G).l=[]∧∀ p,(givP s G).K p=if p ∈ G then 1 else s.K p
 | [],s,hl,_,_=>⟨hl,fun p=>by rw [if_neg (by simp)];rfl⟩
 | f::G,s,hl,h,hn=>by
  obtain ⟨hf,hk,hm⟩:=h f (List.mem_cons_self ..)
  rw [List.nodup_cons] at hn
  show (givP (s.chg (f:Nat) 1 2 1 3).2 G).l=[]∧∀ p,(givP (s.chg (f:Nat) 1 2 1 3).2 G).K p=_
  have hc:s.chg (f:Nat) 1 2 1 3=(0,s.turn f 1 3):=by rw [chg_one hf hk hm,hl,isR_nilE];rfl
  rw [hc]
  obtain ⟨i1,i2⟩:=giv_tight (G:=G) (s:=s.turn f 1 3) hl (fun g hgm=>by
   obtain ⟨a1,a2,a3⟩:=h g (List.mem_cons_of_mem _ hgm)
   exact ⟨a1,by rw [turn_K,if_neg (fun e:g=f=>hn.1 (e▸hgm))];exact a2,a3⟩) hn.2
  refine ⟨i1,fun p=>?_⟩
  rw [i2,turn_K]
  by_cases e:p=f
  ·subst e;rw [if_neg hn.1,if_pos rfl,if_pos (List.mem_cons_self ..)]
  ·rw [if_neg e]
   by_cases e2:p ∈ G
   ·rw [if_pos e2,if_pos (List.mem_cons_of_mem _ e2)]
   ·rw [if_neg e2,if_neg fun hc=>(List.mem_cons.1 hc).elim e e2]
theorem tight_gone (h:GoodB b) (ht:Tight b) (x:Nat) {L':List Vw} (hc:∀ f,0 < cntF (noA x b.L) f→0 < cntF L' f):Tight { b with L:=L',s:=givP b.s (goneL b.L x) }:=by
 obtain ⟨g1,g2⟩:=giv_tight ht.l (gone_ok h x) gone_nodup
 refine ⟨g1,fun f h1 h2 hk=>?_⟩
 dsimp only at h1 h2 hk
 rw [g2] at hk
 by_cases e:f ∈ goneL b.L x
 ·rw [if_pos e] at hk;exact absurd hk (by decide)
 ·rw [if_neg e] at hk
  refine hc f (Classical.byContradiction fun h0=>e (gone_mem.2 ?_))
  have hr:=h.rng
  obtain ⟨u,hu,eu⟩:=cnt_posE.1 (ht.no f h1 h2 hk)
  refine ⟨by omega,⟨u,hu,Classical.byContradiction fun hne=>h0 (cnt_posE.2 ⟨u,mem_noA.2 ⟨hu,hne⟩,eu⟩),eu⟩,by omega⟩
theorem tight_drop (h:GoodB b) (ht:Tight b) (x:Int):Tight (b.drop x).2.2:=by
 unfold Bk.drop
 split
 ·exact ht
 ·show Tight { b with L:=noA x.toNat b.L,s:=givP b.s (goneL b.L x.toNat) }
  exact tight_gone h ht x.toNat fun f hf=>hf
end
end Go.Pol
namespace Go.Pol
open Go.Am Go.Proofs.YtphggldkligldaaGreat.Sh
theorem set_split {g:Vw→Vw} {A B:List Vw} {v:Vw} (hs:srt (A++v::B)):setL g v.1 v.2.1 (A++v::B)=A++g v::B:=by
 have hne:=mid_ne hs
 unfold setL
 rw [List.map_append,List.map_cons,if_pos ⟨rfl,rfl⟩]
 congr 1
 ·conv=>rhs;rw [← List.map_id A]
  exact List.map_congr_left fun w hw=>if_neg (hne.1 w hw)
 ·congr 1
  conv=>rhs;rw [← List.map_id B]
  exact List.map_congr_left fun w hw=>if_neg (hne.2 w hw)
theorem del_split {A B:List Vw} {v:Vw} (hs:srt (A++v::B)):delL (A++v::B) v.1 v.2.1=A++B:=by
 have hne:=mid_ne hs
 unfold delL
 rw [List.filter_append,List.filter_cons,if_neg (by simp [atV])]
 congr 1
 ·exact List.filter_eq_self.2 fun w hw=>by simpa using hne.1 w hw
 ·exact List.filter_eq_self.2 fun w hw=>by simpa using hne.2 w hw
section
variable {b:Bk}
end
end Go.Pol
namespace Go.Pol
open Go.Am Go.Proofs.YtphggldkligldaaGreat.Sh
def Bk.rd (b:Bk) (a k j:Nat):Option Int:=(fndL b.L a k).map fun v=>b.s.B v.2.2.1 j
theorem fnd_of {M:List Vw} (hs:srt M) {v:Vw} {a k:Nat} (hv:v ∈ M) (h1:v.1=a) (h2:v.2.1=k):fndL M a k=some v:=by
 rw [← h1,← h2];exact fnd_yes hs hv
theorem fnd_set {L:List Vw} (hs:srt L) {g:Vw→Vw} (hg:∀ v,(g v).1=v.1∧(g v).2.1=v.2.1) (x y a k:Nat):fndL (setL g x y L) a k=(fndL L a k).map fun v=>if x=a∧y=k then g v else v:=by
 have hs2:=set_srt (a:=x) (k:=y) hg hs
 cases hf:fndL L a k with
 | none =>
  refine fnd_no fun u hu hau=>?_
  obtain ⟨w,hw,rfl⟩:=set_mem.1 hu
  refine fnd_none hf w hw ?_
  split at hau
  ·exact ⟨(hg w).1.symm.trans hau.1,(hg w).2.symm.trans hau.2⟩
  ·exact hau
 | some u =>
  obtain ⟨h1,h2⟩:=fnd_some hf
  have e:(if atV (x,y) u then g u else u)=if x=a∧y=k then g u else u:=by
   have h3:atV (x,y) u ↔ x=a∧y=k:=⟨fun h=>⟨h.1.symm.trans h2.1,h.2.symm.trans h2.2⟩,fun h=>⟨h2.1.trans h.1.symm,h2.2.trans h.2.symm⟩⟩
   by_cases h4:atV (x,y) u
   ·rw [if_pos h4,if_pos (h3.1 h4)]
   ·rw [if_neg h4,if_neg fun h5=>h4 (h3.2 h5)]
  refine fnd_of hs2 (set_mem.2 ⟨u,h1,e.symm⟩) ?_ ?_
  ·show (if x=a∧y=k then g u else u).1=a
   split
   ·exact (hg u).1.trans h2.1
   ·exact h2.1
  ·show (if x=a∧y=k then g u else u).2.1=k
   split
   ·exact (hg u).2.trans h2.2
   ·exact h2.2
section
variable {b:Bk}
theorem rd_of {b':Bk} {a k j:Nat} {g:Vw→Vw} (hf:fndL b'.L a k=(fndL b.L a k).map g) (hB:∀ v ∈ b.L,v.1=a→v.2.1=k→b'.s.B (g v).2.2.1 j=b.s.B v.2.2.1 j):b'.rd a k j=b.rd a k j:=by
 unfold Bk.rd
 rw [hf]
 cases h:fndL b.L a k with
 | none=>rfl
 | some v =>
  obtain ⟨h1,h2⟩:=fnd_some h
  exact congrArg some (hB v h1 h2.1 h2.2)
theorem rd_same {b':Bk} (hL:b'.L=b.L) (hB:∀ v ∈ b.L,b'.s.B v.2.2.1=b.s.B v.2.2.1) (a k j:Nat):b'.rd a k j=b.rd a k j:=rd_of (g:=id) (by rw [hL];simp) fun v hv _ _=>by rw [show (id v)=v from rfl,hB v hv]
theorem map_keeps (h:GoodB b) (x k:Int) (he:(b.map x k).1 ≠ 0) (a c j:Nat):(b.map x k).2.L=b.L∧(b.map x k).2.rd a c j=b.rd a c j∧(∀ f,0 < cntF b.L f→(b.map x k).2.s.B f=b.s.B f):=by
 unfold Bk.map at he ⊢
 split
 ·exact ⟨rfl,rfl,fun _ _=>rfl⟩
 split
 ·exact ⟨rfl,rfl,fun _ _=>rfl⟩
 split
 ·exact ⟨rfl,rfl,fun _ _=>rfl⟩
 rename_i h1 h2 h3
 rw [if_neg h1,if_neg h2,if_neg h3] at he
 have tk:=h.tk fun _=>0
 split
 ·rename_i h0;rw [if_pos h0] at he;exact absurd rfl he
 ·exact ⟨rfl,rd_same (b:=b) (b':={ b with s:=(tkP b.a b.n b.L b.s fun _=>0).2.2 }) rfl (fun v hv=>tk.old _ (cnt_posE.2 ⟨v,hv,rfl⟩)) a c j,fun f hf=>tk.old f hf⟩
theorem unmap_no (x k:Int) (he:(b.unmap x k).1 ≠ 0):(b.unmap x k).2=b:=by
 unfold Bk.unmap at he ⊢
 split
 ·rfl
 rename_i hin
 rw [if_neg hin] at he
 cases hf:fndL b.L x.toNat k.toNat with
 | none=>rfl
 | some v=>rw [hf] at he;exact absurd rfl he
theorem take_no (x y:Int) (he:(b.take x y).2.1 ≠ 0):(b.take x y).2.2=b:=by
 unfold Bk.take at he ⊢
 split
 ·rfl
 rename_i h1;rw [if_neg h1] at he
 split
 ·rfl
 rename_i h2;rw [if_neg h2] at he
 split
 ·rfl
 rename_i h3;rw [if_neg h3] at he
 split
 ·rfl
 rename_i h4;rw [if_neg h4] at he
 exact absurd rfl he
theorem drop_no (x:Int) (he:(b.drop x).2.1 ≠ 0):(b.drop x).2.2=b:=by
 unfold Bk.drop at he ⊢
 split
 ·rfl
 rename_i h1;rw [if_neg h1] at he;exact absurd rfl he
theorem revert_no (x y:Int) (he:(b.revert x y).2.1 ≠ 0):(b.revert x y).2.2=b:=by
 unfold Bk.revert at he ⊢
 split
 ·rfl
 rename_i h1;rw [if_neg h1] at he
 split
 ·rfl
 rename_i h2;rw [if_neg h2] at he
 split
 ·rfl
 rename_i h3;rw [if_neg h3] at he
 exact absurd rfl he
end
end Go.Pol
