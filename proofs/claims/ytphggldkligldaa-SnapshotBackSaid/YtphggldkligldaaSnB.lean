/-
 A book of spaces,plain: pages outside of it;what an error keeps;without refusals no frame is idle.
 A book of spaces,plain: views at a place;writes.
 A book of spaces,plain: what a space reads.
-/
import Derived.Test.YtphggldkligldaaSnA
set_option linter.unusedSimpArgs false
set_option linter.unusedVariables false
namespace Go.Pol
open Go.Am Go.Proofs.Ytphggldkligldaa.Sh
section
variable {b:Bk}
def OutB (b:Bk):Prop:=∀ p,¬ (b.a≤p∧p < b.a+b.n)→b.s.K p=0
theorem write_Kp {s:Sy} {x v:Int} {p:Nat}:(s.write x v).2.K p=s.K p:=by
 unfold Sy.write;split
 ·rfl
 ·split<;>rfl
theorem write_l {s:Sy} {x v:Int}:(s.write x v).2.l=s.l:=by
 unfold Sy.write;split
 ·rfl
 ·split<;>rfl
theorem out_tk (h:GoodB b) (ho:OutB b) (x:Nat→Int):∀ p,¬ (b.a≤p∧p < b.a+b.n)→(tkP b.a b.n b.L b.s x).2.2.K p=0:=fun p hp=>by
 by_cases e:(tkP b.a b.n b.L b.s x).2.2.K p=b.s.K p
 ·rw [e];exact ho p hp
 ·obtain ⟨h1,h2,_⟩:=(h.tk x).new p e
  exact absurd ⟨h1,h2⟩ hp
theorem out_map (h:GoodB b) (ho:OutB b) (x k:Int):OutB (b.map x k).2:=by
 unfold Bk.map
 (repeat' split)<;>first|exact ho|exact out_tk h ho _
theorem out_giv (h:GoodB b) (ho:OutB b) {G:List Nat} (hG:∀ f ∈ G,f < 1024∧b.s.K f=2∧b.s.M f=false) (hn:G.Nodup) (hr:∀ f ∈ G,b.a≤f∧f < b.a+b.n):∀ p,¬ (b.a≤p∧p < b.a+b.n)→(givP b.s G).K p=0:=fun p hp=>by
 rw [((giv_spec h.good hG hn).2.2.1 p fun hg=>hp (hr p hg)).1];exact ho p hp
theorem one_ok (h:GoodB b) {v:Vw} (hv:v ∈ b.L):∀ f ∈ [v.2.2.1],f < 1024∧b.s.K f=2∧b.s.M f=false:=fun f hf=>by
 obtain ⟨w1,w2,w3⟩:=h.view hv
 have hr:=h.rng
 rw [List.mem_singleton.1 hf]
 exact ⟨by omega,w3,(h.kind _ w1 w2).2⟩
theorem gone_rng (h:GoodB b) (x:Nat):∀ f ∈ goneL b.L x,b.a≤f∧f < b.a+b.n:=fun f hf=>by
 obtain ⟨h1,⟨v,hv,h2,h3⟩,h4⟩:=gone_mem.1 hf
 obtain ⟨w1,w2,w3⟩:=h.view hv
 exact ⟨h3▸w1,h3▸w2⟩
theorem out_gone (h:GoodB b) (ho:OutB b) (x:Nat):∀ p,¬ (b.a≤p∧p < b.a+b.n)→(givP b.s (goneL b.L x)).K p=0:=out_giv h ho (gone_ok h x) gone_nodup (gone_rng h x)
theorem out_unmap (h:GoodB b) (ho:OutB b) (x k:Int):OutB (b.unmap x k).2:=by
 unfold Bk.unmap
 split
 ·exact ho
 cases hf:fndL b.L x.toNat k.toNat with
 | none=>exact ho
 | some v =>
  obtain ⟨hv,_⟩:=fnd_some hf
  obtain ⟨w1,w2,_⟩:=h.view hv
  intro p hp
  dsimp only at hp ⊢
  split
  ·exact out_giv h ho (one_ok h hv) (by simp) (fun f hf=>by rw [List.mem_singleton.1 hf];exact ⟨w1,w2⟩) p hp
  ·exact ho p hp
theorem out_take (ho:OutB b) (x y:Int):OutB (b.take x y).2.2:=by
 unfold Bk.take
 (repeat' split)<;>exact ho
theorem out_drop (h:GoodB b) (ho:OutB b) (x:Int):OutB (b.drop x).2.2:=by
 unfold Bk.drop
 split
 ·exact ho
 ·show OutB { b with L:=noA x.toNat b.L,s:=givP b.s (goneL b.L x.toNat) }
  intro p hp
  dsimp only at hp ⊢
  exact out_gone h ho x.toNat p hp
theorem out_revert (h:GoodB b) (ho:OutB b) (x y:Int):OutB (b.revert x y).2.2:=by
 unfold Bk.revert
 split
 ·exact ho
 split
 ·exact ho
 split
 ·exact ho
 ·show OutB { b with L:=frkL y.toNat x.toNat (noA x.toNat b.L),s:=givP b.s (goneL b.L x.toNat) }
  intro p hp
  dsimp only at hp ⊢
  exact out_gone h ho x.toNat p hp
theorem out_put (ho:OutB b) (x t v:Int):OutB (b.put x t v).2:=by
 unfold Bk.put
 split
 ·intro p hp;show (b.s.write _ v).2.K p=0;rw [write_Kp];exact ho p hp
 ·exact ho
theorem out_write (h:GoodB b) (ho:OutB b) (x t v:Int):OutB (b.write x t v).2:=by
 unfold Bk.write
 split
 ·exact ho
 cases hf:fndL b.L x.toNat (t.toNat / 64) with
 | none=>exact ho
 | some u =>
  dsimp only
  split
  ·exact out_put ho x t v
  ·split
   ·have ho2:OutB { b with L:=setL (prV true) x.toNat (t.toNat / 64) b.L }:=ho
    exact out_put ho2 x t v
   ·split
    ·have ho2:OutB { b with L:=setL (frV (tkP b.a b.n b.L b.s (b.s.B u.2.2.1)).2.1) x.toNat (t.toNat / 64) b.L,s:=(tkP b.a b.n b.L b.s (b.s.B u.2.2.1)).2.2 }:=out_tk h ho _
     exact out_put ho2 x t v
    ·exact out_tk h ho _
theorem isR_nilE {C:Nat→Int} {k:Nat}:isR [] C k=false:=by unfold isR refL;split<;>rfl
structure Tight (b:Bk):Prop where
 l:b.s.l=[]
 no:∀ f,b.a≤f→f < b.a+b.n→b.s.K f=2→0 < cntF b.L f
theorem tk_l {a n:Nat} {L:List Vw} {s:Sy} {x:Nat→Int} (hl:s.l=[]):(tkP a n L s x).2.2.l=[]:=by
 unfold tkP
 cases freeF L a n with
 | none=>exact hl
 | some f =>
  have hc:(s.chg (f:Nat) 1 1 2 2).2.l=s.l:=by
   unfold Sy.chg;split
   ·rfl
   ·split
    ·split<;>rfl
    ·rfl
  dsimp only
  split
  ·split
   ·exact hc.trans hl
   ·exact hc.trans hl
  ·exact hl
theorem tk_tight (h:GoodB b) (ht:Tight b) (x:Nat→Int):((tkP b.a b.n b.L b.s x).1=0∨((tkP b.a b.n b.L b.s x).1=5∧(tkP b.a b.n b.L b.s x).2.2=b.s))∧∀ p,(tkP b.a b.n b.L b.s x).2.2.K p=2→b.s.K p=2∨((tkP b.a b.n b.L b.s x).1=0∧p=(tkP b.a b.n b.L b.s x).2.1):=by
 unfold tkP
 cases hf:freeF b.L b.a b.n with
 | none=>exact ⟨.inr ⟨rfl,rfl⟩,fun p hp=>.inl hp⟩
 | some f =>
  obtain ⟨h1,h2,h3⟩:=free_some hf
  obtain ⟨hkf,hmf⟩:=h.kind f h1 h2
  have hr:=h.rng
  dsimp only
  by_cases k1:b.s.K f=1
  ·have hc:b.s.chg (f:Nat) 1 1 2 2=(0,b.s.turn f 2 2):=by rw [chg_one (by omega) k1 hmf,ht.l,isR_nilE];rfl
   rw [if_pos k1,hc,if_pos rfl]
   refine ⟨.inl rfl,fun p hp=>?_⟩
   have hp:(b.s.turn f 2 2).K p=2:=hp
   rw [turn_K] at hp
   by_cases e:p=f
   ·exact .inr ⟨rfl,e⟩
   ·rw [if_neg e] at hp;exact .inl hp
  ·rw [if_neg k1]
   exact ⟨.inl rfl,fun p hp=>.inl hp⟩
theorem giv_tight:∀ {G:List Nat} {s:Sy},s.l=[]→(∀ f ∈ G,f < 1024∧s.K f=2∧s.M f=false)→G.Nodup→(givP s G).l=[]∧∀ p,(givP s G).K p=if p ∈ G then 1 else s.K p
 | [],s,hl,_,_=>⟨hl,fun p=>by rw [if_neg (by simp)];rfl⟩
 | f::G,s,hl,h,hn=>by
  obtain ⟨hf,hk,hm⟩:=h f (List.mem_cons_self ..)
  rw [List.nodup_cons] at hn
  show (givP (s.chg (f:Nat) 1 2 1 3).2 G).l=[]∧∀ p,(givP (s.chg (f:Nat) 1 2 1 3).2 G).K p=_
  have hc:s.chg (f:Nat) 1 2 1 3=(0,s.turn f 1 3):=by rw [chg_one hf hk hm,hl,isR_nilE];rfl
  rw [hc]
  obtain ⟨i1,i2⟩:=giv_tight (G:=G) (s:=s.turn f 1 3) hl (fun g hgm=>by
   obtain ⟨a1,a2,a3⟩:=h g (List.mem_cons_of_mem _ hgm)
   exact ⟨a1,by rw [turn_K,if_neg (fun e:g=f=>hn.1 (e▸hgm))];exact a2,a3⟩) hn.2
  refine ⟨i1,fun p=>?_⟩
  rw [i2,turn_K]
  by_cases e:p=f
  ·subst e;rw [if_neg hn.1,if_pos rfl,if_pos (List.mem_cons_self ..)]
  ·rw [if_neg e]
   by_cases e2:p ∈ G
   ·rw [if_pos e2,if_pos (List.mem_cons_of_mem _ e2)]
   ·rw [if_neg e2,if_neg fun hc=>(List.mem_cons.1 hc).elim e e2]
theorem tight_map (h:GoodB b) (ht:Tight b) (x k:Int):Tight (b.map x k).2:=by
 unfold Bk.map
 split
 ·exact ht
 split
 ·exact ht
 split
 ·exact ht
 obtain ⟨t1,t2⟩:=tk_tight h ht fun _=>0
 split
 ·refine ⟨tk_l ht.l,fun f h1 h2 hk=>?_⟩
  show 0 < cntF (insV _ b.L) f
  rw [cnt_ins]
  rcases t2 f hk with hk | ⟨_,e⟩
  ·have:=ht.no f h1 h2 hk;omega
  ·rw [if_pos e.symm];omega
 ·rename_i he
  refine ⟨tk_l ht.l,fun f h1 h2 hk=>?_⟩
  rcases t2 f hk with hk | ⟨e,_⟩
  ·exact ht.no f h1 h2 hk
  ·exact absurd e he
theorem tight_unmap (h:GoodB b) (ht:Tight b) (x k:Int):Tight (b.unmap x k).2:=by
 unfold Bk.unmap
 split
 ·exact ht
 cases hf:fndL b.L x.toNat k.toNat with
 | none=>exact ht
 | some v =>
  obtain ⟨hv,hva⟩:=fnd_some hf
  have hcnt:∀ f,0 < cntF b.L f→f ≠ v.2.2.1→0 < cntF (delL b.L x.toNat k.toNat) f:=fun f hc hne=>by
   obtain ⟨u,hu,e⟩:=cnt_posE.1 hc
   refine cnt_posE.2 ⟨u,mem_del.2 ⟨hu,fun ha=>hne ?_⟩,e⟩
   rw [← e,srt_uniq h.sr hu hv (ha.1.trans hva.1.symm) (ha.2.trans hva.2.symm)]
  dsimp only
  by_cases h0:cntF (delL b.L x.toNat k.toNat) v.2.2.1=0
  ·rw [if_pos h0]
   obtain ⟨g1,g2⟩:=giv_tight ht.l (one_ok h hv) (by simp)
   refine ⟨g1,fun f h1 h2 hk=>?_⟩
   have hk:(givP b.s [v.2.2.1]).K f=2:=hk
   rw [g2] at hk
   by_cases e:f ∈ [v.2.2.1]
   ·rw [if_pos e] at hk;exact absurd hk (by decide)
   ·rw [if_neg e] at hk
    exact hcnt f (ht.no f h1 h2 hk) fun e2=>e (by rw [e2];simp)
  ·rw [if_neg h0]
   refine ⟨ht.l,fun f h1 h2 hk=>?_⟩
   by_cases e:f=v.2.2.1
   ·show 0 < cntF (delL b.L x.toNat k.toNat) f
    rw [e];omega
   ·exact hcnt f (ht.no f h1 h2 hk) e
theorem frk_cnt {x y:Nat} {L:List Vw} {f:Nat} (h:0 < cntF L f):0 < cntF (frkL x y L) f:=by
 obtain ⟨u,hu,e⟩:=cnt_posE.1 h
 exact cnt_posE.2 ⟨wnV x u,frk_mem.2 (.inl ⟨u,hu,rfl⟩),e⟩
theorem tight_take (ht:Tight b) (x y:Int):Tight (b.take x y).2.2:=by
 unfold Bk.take
 split
 ·exact ht
 split
 ·exact ht
 split
 ·exact ht
 split
 ·exact ht
 exact ⟨ht.l,fun f h1 h2 hk=>frk_cnt (ht.no f h1 h2 hk)⟩
theorem tight_gone (h:GoodB b) (ht:Tight b) (x:Nat) {L':List Vw} (hc:∀ f,0 < cntF (noA x b.L) f→0 < cntF L' f):Tight { b with L:=L',s:=givP b.s (goneL b.L x) }:=by
 obtain ⟨g1,g2⟩:=giv_tight ht.l (gone_ok h x) gone_nodup
 refine ⟨g1,fun f h1 h2 hk=>?_⟩
 dsimp only at h1 h2 hk
 rw [g2] at hk
 by_cases e:f ∈ goneL b.L x
 ·rw [if_pos e] at hk;exact absurd hk (by decide)
 ·rw [if_neg e] at hk
  refine hc f (Classical.byContradiction fun h0=>e (gone_mem.2 ?_))
  have hr:=h.rng
  obtain ⟨u,hu,eu⟩:=cnt_posE.1 (ht.no f h1 h2 hk)
  refine ⟨by omega,⟨u,hu,Classical.byContradiction fun hne=>h0 (cnt_posE.2 ⟨u,mem_noA.2 ⟨hu,hne⟩,eu⟩),eu⟩,by omega⟩
theorem tight_drop (h:GoodB b) (ht:Tight b) (x:Int):Tight (b.drop x).2.2:=by
 unfold Bk.drop
 split
 ·exact ht
 ·show Tight { b with L:=noA x.toNat b.L,s:=givP b.s (goneL b.L x.toNat) }
  exact tight_gone h ht x.toNat fun f hf=>hf
theorem tight_revert (h:GoodB b) (ht:Tight b) (x y:Int):Tight (b.revert x y).2.2:=by
 unfold Bk.revert
 split
 ·exact ht
 split
 ·exact ht
 split
 ·exact ht
 ·show Tight { b with L:=frkL y.toNat x.toNat (noA x.toNat b.L),s:=givP b.s (goneL b.L x.toNat) }
  exact tight_gone h ht x.toNat fun f hf=>frk_cnt hf
theorem tight_put (ht:Tight b) (x t v:Int):Tight (b.put x t v).2:=by
 unfold Bk.put
 split
 ·exact ⟨write_l.trans ht.l,fun f h1 h2 hk=>ht.no f h1 h2 (by
   have hk:(b.s.write (b.where_ x t true).1 v).2.K f=2:=hk
   rwa [write_Kp] at hk)⟩
 ·exact ht
end
end Go.Pol
namespace Go.Pol
open Go.Am Go.Proofs.Ytphggldkligldaa.Sh
theorem set_split {g:Vw→Vw} {A B:List Vw} {v:Vw} (hs:srt (A++v::B)):setL g v.1 v.2.1 (A++v::B)=A++g v::B:=by
 have hne:=mid_ne hs
 unfold setL
 rw [List.map_append,List.map_cons,if_pos ⟨rfl,rfl⟩]
 congr 1
 ·conv=>rhs;rw [← List.map_id A]
  exact List.map_congr_left fun w hw=>if_neg (hne.1 w hw)
 ·congr 1
  conv=>rhs;rw [← List.map_id B]
  exact List.map_congr_left fun w hw=>if_neg (hne.2 w hw)
theorem del_split {A B:List Vw} {v:Vw} (hs:srt (A++v::B)):delL (A++v::B) v.1 v.2.1=A++B:=by
 have hne:=mid_ne hs
 unfold delL
 rw [List.filter_append,List.filter_cons,if_neg (by simp [atV])]
 congr 1
 ·exact List.filter_eq_self.2 fun w hw=>by simpa using hne.1 w hw
 ·exact List.filter_eq_self.2 fun w hw=>by simpa using hne.2 w hw
section
variable {b:Bk}
theorem cnt_pr {A B:List Vw} {v:Vw} {w:Bool} {f:Nat}:cntF (A++prV w v::B) f=cntF (A++v::B) f:=by
 rw [cnt_app,cnt_app,cnt_cons,cnt_cons];rfl
theorem cnt_fr {A B:List Vw} {v:Vw} {f p:Nat}:cntF (A++frV f v::B) p+(if v.2.2.1=p then 1 else 0)=cntF (A++v::B) p+if f=p then 1 else 0:=by
 rw [cnt_app,cnt_app,cnt_cons,cnt_cons]
 show cntF A p+((if f=p then 1 else 0)+cntF B p)+_=_
 omega
theorem tight_write (h:GoodB b) (ht:Tight b) (x t v:Int):Tight (b.write x t v).2:=by
 unfold Bk.write
 split
 ·exact ht
 cases hf:fndL b.L x.toNat (t.toNat / 64) with
 | none=>exact ht
 | some u =>
  obtain ⟨hu,ha⟩:=fnd_some hf
  have ha1:u.1=x.toNat:=ha.1
  have ha2:u.2.1=t.toNat / 64:=ha.2
  obtain ⟨A,B,hL⟩:=List.append_of_mem hu
  have hs:=h.sr
  dsimp only
  split
  ·exact tight_put ht x t v
  ·split
   ·have ht2:Tight { b with L:=setL (prV true) x.toNat (t.toNat / 64) b.L }:=by
     refine ⟨ht.l,fun f h1 h2 hk=>?_⟩
     have:=ht.no f h1 h2 hk
     show 0 < cntF (setL (prV true) x.toNat (t.toNat / 64) b.L) f
     rw [hL] at hs this ⊢
     rw [← ha1,← ha2,set_split hs,cnt_pr];exact this
    exact tight_put ht2 x t v
   ·rename_i h1c
    obtain ⟨t1,t2⟩:=tk_tight h ht (b.s.B u.2.2.1)
    have tk:=h.tk (b.s.B u.2.2.1)
    split
    ·rename_i he
     obtain ⟨u1,u2,u3,u4,u5⟩:=tk.got he
     have ht2:Tight { b with L:=setL (frV (tkP b.a b.n b.L b.s (b.s.B u.2.2.1)).2.1) x.toNat (t.toNat / 64) b.L,s:=(tkP b.a b.n b.L b.s (b.s.B u.2.2.1)).2.2 }:=by
      refine ⟨tk_l ht.l,fun f h1 h2 hk=>?_⟩
      dsimp only at h1 h2 hk ⊢
      have hc0:0 < cntF b.L u.2.2.1:=cnt_posE.2 ⟨u,hu,rfl⟩
      generalize tkP b.a b.n b.L b.s (b.s.B u.2.2.1)=r at *
      have key:cntF (setL (frV r.2.1) x.toNat (t.toNat / 64) b.L) f+(if u.2.2.1=f then 1 else 0)=cntF b.L f+if r.2.1=f then 1 else 0:=by
       have hs2:=hs
       rw [hL] at hs2 ⊢
       rw [← ha1,← ha2,set_split hs2,cnt_fr]
      rcases t2 f hk with hk | ⟨_,e⟩
      ·have h5:=ht.no f h1 h2 hk
       by_cases e:u.2.2.1=f
       ·rw [if_pos e] at key;rw [e] at hc0 h1c;split at key<;>omega
       ·rw [if_neg e] at key;split at key<;>omega
      ·rw [if_pos e.symm] at key
       have hne:u.2.2.1 ≠ r.2.1:=fun e3=>by rw [e3] at hc0;omega
       rw [if_neg fun e4=>hne (e4.trans e)] at key
       omega
     exact tight_put ht2 x t v
    ·rename_i he
     refine ⟨tk_l ht.l,fun f h1 h2 hk=>?_⟩
     rcases t2 f hk with hk | ⟨e,_⟩
     ·exact ht.no f h1 h2 hk
     ·exact absurd e he
end
end Go.Pol
namespace Go.Pol
open Go.Am Go.Proofs.Ytphggldkligldaa.Sh
def Bk.rd (b:Bk) (a k j:Nat):Option Int:=(fndL b.L a k).map fun v=>b.s.B v.2.2.1 j
section
variable {b:Bk}
end
end Go.Pol
