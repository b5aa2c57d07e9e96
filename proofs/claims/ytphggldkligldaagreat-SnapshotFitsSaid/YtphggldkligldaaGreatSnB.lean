/-
 A book of spaces,plain: pages outside of it;what an error keeps;without refusals no frame is idle.
 A book of spaces,plain: views at a place;writes.
 A book of spaces,plain: what a space reads.
-/
import Derived.Test.YtphggldkligldaaGreatSnA
set_option linter.unusedSimpArgs false
set_option linter.unusedVariables false
namespace Go.Pol
open Go.Am Go.Proofs.YtphggldkligldaaGreat.Sh
section
variable {b:Bk}
def OutB (b:Bk):Prop:=∀ p,¬ (b.a≤p∧p < b.a+b.n)→b.s.K p=0
theorem write_Kp {s:Sy} {x v:Int} {p:Nat}:(s.write x v).2.K p=s.K p:=by
 unfold Sy.write;split
 ·rfl
 ·split<;>rfl
theorem out_tk (h:GoodB b) (ho:OutB b) (x:Nat→Int):∀ p,¬ (b.a≤p∧p < b.a+b.n)→(tkP b.a b.n b.L b.s x).2.2.K p=0:=fun p hp=>by
 by_cases e:(tkP b.a b.n b.L b.s x).2.2.K p=b.s.K p
 ·rw [e];exact ho p hp
 ·obtain ⟨h1,h2,_⟩:=(h.tk x).new p e
  exact absurd ⟨h1,h2⟩ hp
theorem out_map (h:GoodB b) (ho:OutB b) (x k:Int):OutB (b.map x k).2:=by
 unfold Bk.map
 (repeat' split)<;>first|exact ho|exact out_tk h ho _
theorem out_giv (h:GoodB b) (ho:OutB b) {G:List Nat} (hG:∀ f ∈ G,f < 1024∧b.s.K f=2∧b.s.M f=false) (hn:G.Nodup) (hr:∀ f ∈ G,b.a≤f∧f < b.a+b.n):∀ p,¬ (b.a≤p∧p < b.a+b.n)→(givP b.s G).K p=0:=fun p hp=>by
 rw [((giv_spec h.good hG hn).2.2.1 p fun hg=>hp (hr p hg)).1];exact ho p hp
theorem one_ok (h:GoodB b) {v:Vw} (hv:v ∈ b.L):∀ f ∈ [v.2.2.1],f < 1024∧b.s.K f=2∧b.s.M f=false:=fun f hf=>by
 obtain ⟨w1,w2,w3⟩:=h.view hv
 have hr:=h.rng
 rw [List.mem_singleton.1 hf]
 exact ⟨by omega,w3,(h.kind _ w1 w2).2⟩
theorem gone_rng (h:GoodB b) (x:Nat):∀ f ∈ goneL b.L x,b.a≤f∧f < b.a+b.n:=fun f hf=>by
 obtain ⟨h1,⟨v,hv,h2,h3⟩,h4⟩:=gone_mem.1 hf
 obtain ⟨w1,w2,w3⟩:=h.view hv
 exact ⟨h3▸w1,h3▸w2⟩
theorem out_gone (h:GoodB b) (ho:OutB b) (x:Nat):∀ p,¬ (b.a≤p∧p < b.a+b.n)→(givP b.s (goneL b.L x)).K p=0:=out_giv h ho (gone_ok h x) gone_nodup (gone_rng h x)
theorem out_unmap (h:GoodB b) (ho:OutB b) (x k:Int):OutB (b.unmap x k).2:=by
 unfold Bk.unmap
 split
 ·exact ho
 cases hf:fndL b.L x.toNat k.toNat with
 | none=>exact ho
 | some v =>
  obtain ⟨hv,_⟩:=fnd_some hf
  obtain ⟨w1,w2,_⟩:=h.view hv
  intro p hp
  dsimp only at hp ⊢
  split
  ·exact out_giv h ho (one_ok h hv) (by simp) (fun f hf=>by rw [List.mem_singleton.1 hf];exact ⟨w1,w2⟩) p hp
  ·exact ho p hp
theorem out_take (ho:OutB b) (x y:Int):OutB (b.take x y).2.2:=by
 unfold Bk.take
 (repeat' split)<;>exact ho
theorem out_drop (h:GoodB b) (ho:OutB b) (x:Int):OutB (b.drop x).2.2:=by
 unfold Bk.drop
 split
 ·exact ho
 ·show OutB { b with L:=noA x.toNat b.L,s:=givP b.s (goneL b.L x.toNat) }
  intro p hp
  dsimp only at hp ⊢
  exact out_gone h ho x.toNat p hp
theorem out_revert (h:GoodB b) (ho:OutB b) (x y:Int):OutB (b.revert x y).2.2:=by
 unfold Bk.revert
 split
 ·exact ho
 split
 ·exact ho
 split
 ·exact ho
 ·show OutB { b with L:=frkL y.toNat x.toNat (noA x.toNat b.L),s:=givP b.s (goneL b.L x.toNat) }
  intro p hp
  dsimp only at hp ⊢
  exact out_gone h ho x.toNat p hp
theorem out_put (ho:OutB b) (x t v:Int):OutB (b.put x t v).2:=by
 unfold Bk.put
 split
 ·intro p hp;show (b.s.write _ v).2.K p=0;rw [write_Kp];exact ho p hp
 ·exact ho
theorem out_write (h:GoodB b) (ho:OutB b) (x t v:Int):OutB (b.write x t v).2:=by
 unfold Bk.write
 split
 ·exact ho
 cases hf:fndL b.L x.toNat (t.toNat / 64) with
 | none=>exact ho
 | some u =>
  dsimp only
  split
  ·exact out_put ho x t v
  ·split
   ·have ho2:OutB { b with L:=setL (prV true) x.toNat (t.toNat / 64) b.L }:=ho
    exact out_put ho2 x t v
   ·split
    ·have ho2:OutB { b with L:=setL (frV (tkP b.a b.n b.L b.s (b.s.B u.2.2.1)).2.1) x.toNat (t.toNat / 64) b.L,s:=(tkP b.a b.n b.L b.s (b.s.B u.2.2.1)).2.2 }:=out_tk h ho _
     exact out_put ho2 x t v
    ·exact out_tk h ho _
theorem isR_nilE {C:Nat→Int} {k:Nat}:isR [] C k=false:=by unfold isR refL;split<;>rfl
structure Tight (b:Bk):Prop where
 l:b.s.l=[]
 no:∀ f,b.a≤f→f < b.a+b.n→b.s.K f=2→0 < cntF b.L f
theorem giv_tight:∀ {G:List Nat} {s:Sy},s.l=[]→(∀ f ∈ G,f < 1024∧s.K f=2∧s.M f=false)→G.Nodup→(givP s G).l=[]∧∀ p,(givP s G).K p=if p ∈ G then 1 else s.K p
 | [],s,hl,_,_=>⟨hl,fun p=>by rw [if_neg (by simp)];rfl⟩
 | f::G,s,hl,h,hn=>by
  obtain ⟨hf,hk,hm⟩:=h f (List.mem_cons_self ..)
  rw [List.nodup_cons] at hn
  show (givP (s.chg (f:Nat) 1 2 1 3).2 G).l=[]∧∀ p,(givP (s.chg (f:Nat) 1 2 1 3).2 G).K p=_
  have hc:s.chg (f:Nat) 1 2 1 3=(0,s.turn f 1 3):=by rw [chg_one hf hk hm,hl,isR_nilE];rfl
  rw [hc]
  obtain ⟨i1,i2⟩:=giv_tight (G:=G) (s:=s.turn f 1 3) hl (fun g hgm=>by
   obtain ⟨a1,a2,a3⟩:=h g (List.mem_cons_of_mem _ hgm)
   exact ⟨a1,by rw [turn_K,if_neg (fun e:g=f=>hn.1 (e▸hgm))];exact a2,a3⟩) hn.2
  refine ⟨i1,fun p=>?_⟩
  rw [i2,turn_K]
  by_cases e:p=f
  ·subst e;rw [if_neg hn.1,if_pos rfl,if_pos (List.mem_cons_self ..)]
  ·rw [if_neg e]
   by_cases e2:p ∈ G
   ·rw [if_pos e2,if_pos (List.mem_cons_of_mem _ e2)]
   ·rw [if_neg e2,if_neg fun hc=>(List.mem_cons.1 hc).elim e e2]
theorem tight_gone (h:GoodB b) (ht:Tight b) (x:Nat) {L':List Vw} (hc:∀ f,0 < cntF (noA x b.L) f→0 < cntF L' f):Tight { b with L:=L',s:=givP b.s (goneL b.L x) }:=by
 obtain ⟨g1,g2⟩:=giv_tight ht.l (gone_ok h x) gone_nodup
 refine ⟨g1,fun f h1 h2 hk=>?_⟩
 dsimp only at h1 h2 hk
 rw [g2] at hk
 by_cases e:f ∈ goneL b.L x
 ·rw [if_pos e] at hk;exact absurd hk (by decide)
 ·rw [if_neg e] at hk
  refine hc f (Classical.byContradiction fun h0=>e (gone_mem.2 ?_))
  have hr:=h.rng
  obtain ⟨u,hu,eu⟩:=cnt_posE.1 (ht.no f h1 h2 hk)
  refine ⟨by omega,⟨u,hu,Classical.byContradiction fun hne=>h0 (cnt_posE.2 ⟨u,mem_noA.2 ⟨hu,hne⟩,eu⟩),eu⟩,by omega⟩
theorem tight_drop (h:GoodB b) (ht:Tight b) (x:Int):Tight (b.drop x).2.2:=by
 unfold Bk.drop
 split
 ·exact ht
 ·show Tight { b with L:=noA x.toNat b.L,s:=givP b.s (goneL b.L x.toNat) }
  exact tight_gone h ht x.toNat fun f hf=>hf
end
end Go.Pol
namespace Go.Pol
open Go.Am Go.Proofs.YtphggldkligldaaGreat.Sh
theorem set_split {g:Vw→Vw} {A B:List Vw} {v:Vw} (hs:srt (A++v::B)):setL g v.1 v.2.1 (A++v::B)=A++g v::B:=by
 have hne:=mid_ne hs
 unfold setL
 rw [List.map_append,List.map_cons,if_pos ⟨rfl,rfl⟩]
 congr 1
 ·conv=>rhs;rw [← List.map_id A]
  exact List.map_congr_left fun w hw=>if_neg (hne.1 w hw)
 ·congr 1
  conv=>rhs;rw [← List.map_id B]
  exact List.map_congr_left fun w hw=>if_neg (hne.2 w hw)
theorem del_split {A B:List Vw} {v:Vw} (hs:srt (A++v::B)):delL (A++v::B) v.1 v.2.1=A++B:=by
 have hne:=mid_ne hs
 unfold delL
 rw [List.filter_append,List.filter_cons,if_neg (by simp [atV])]
 congr 1
 ·exact List.filter_eq_self.2 fun w hw=>by simpa using hne.1 w hw
 ·exact List.filter_eq_self.2 fun w hw=>by simpa using hne.2 w hw
section
variable {b:Bk}
end
end Go.Pol
namespace Go.Pol
open Go.Am Go.Proofs.YtphggldkligldaaGreat.Sh
def Bk.rd (b:Bk) (a k j:Nat):Option Int:=(fndL b.L a k).map fun v=>b.s.B v.2.2.1 j
section
variable {b:Bk}
end
end Go.Pol
