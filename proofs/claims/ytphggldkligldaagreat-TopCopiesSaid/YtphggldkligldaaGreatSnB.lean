/-
 A book of spaces,plain: pages outside of it;what an error keeps;without refusals no frame is idle.
 A book of spaces,plain: views at a place;writes.
 A book of spaces,plain: what a space reads.
-/
import Derived.Test.YtphggldkligldaaGreatSnA
set_option linter.unusedSimpArgs false
set_option linter.unusedVariables false
namespace Go.Pol
open Go.Am Go.Proofs.YtphggldkligldaaGreat.Sh
section
variable {b:Bk}
def OutB (b:Bk):Prop:=∀ p,¬ (b.a≤p∧p < b.a+b.n)→b.s.K p=0
theorem write_Kp {s:Sy} {x v:Int} {p:Nat}:(s.write x v).2.K p=s.K p:=by
 unfold Sy.write;split
 ·rfl
 ·split<;>rfl
theorem write_l {s:Sy} {x v:Int}:(s.write x v).2.l=s.l:=by
 unfold Sy.write;split
 ·rfl
 ·split<;>rfl
theorem out_giv (h:GoodB b) (ho:OutB b) {G:List Nat} (hG:∀ f ∈ G,f < 1024∧b.s.K f=2∧b.s.M f=false) (hn:G.Nodup) (hr:∀ f ∈ G,b.a≤f∧f < b.a+b.n):∀ p,¬ (b.a≤p∧p < b.a+b.n)→(givP b.s G).K p=0:=fun p hp=>by
 rw [((giv_spec h.good hG hn).2.2.1 p fun hg=>hp (hr p hg)).1];exact ho p hp
theorem one_ok (h:GoodB b) {v:Vw} (hv:v ∈ b.L):∀ f ∈ [v.2.2.1],f < 1024∧b.s.K f=2∧b.s.M f=false:=fun f hf=>by
 obtain ⟨w1,w2,w3⟩:=h.view hv
 have hr:=h.rng
 rw [List.mem_singleton.1 hf]
 exact ⟨by omega,w3,(h.kind _ w1 w2).2⟩
theorem gone_rng (h:GoodB b) (x:Nat):∀ f ∈ goneL b.L x,b.a≤f∧f < b.a+b.n:=fun f hf=>by
 obtain ⟨h1,⟨v,hv,h2,h3⟩,h4⟩:=gone_mem.1 hf
 obtain ⟨w1,w2,w3⟩:=h.view hv
 exact ⟨h3▸w1,h3▸w2⟩
theorem out_gone (h:GoodB b) (ho:OutB b) (x:Nat):∀ p,¬ (b.a≤p∧p < b.a+b.n)→(givP b.s (goneL b.L x)).K p=0:=out_giv h ho (gone_ok h x) gone_nodup (gone_rng h x)
theorem out_drop (h:GoodB b) (ho:OutB b) (x:Int):OutB (b.drop x).2.2:=by
 unfold Bk.drop
 split
 ·exact ho
 ·show OutB { b with L:=noA x.toNat b.L,s:=givP b.s (goneL b.L x.toNat) }
  intro p hp
  dsimp only at hp ⊢
  exact out_gone h ho x.toNat p hp
theorem isR_nilE {C:Nat→Int} {k:Nat}:isR [] C k=false:=by unfold isR refL;split<;>rfl
structure Tight (b:Bk):Prop where
 l:b.s.l=[]
 no:∀ f,b.a≤f→f < b.a+b.n→b.s.K f=2→0 < cntF b.L f
theorem tk_l {a n:Nat} {L:List Vw} {s:Sy} {x:Nat→Int} (hl:s.l=[]):(tkP a n L s x).2.2.l=[]:=by
 unfold tkP
 cases freeF L a n with
 | none=>exact hl
 | some f =>
  have hc:(s.chg (f:Nat) 1 1 2 2).2.l=s.l:=by
   unfold Sy.chg;split
   ·rfl
   ·split
    ·split<;>rfl
    ·rfl
  dsimp only
  split
  ·split
   ·exact hc.trans hl
   ·exact hc.trans hl
  ·exact hl
theorem tk_tight (h:GoodB b) (ht:Tight b) (x:Nat→Int):((tkP b.a b.n b.L b.s x).1=0∨((tkP b.a b.n b.L b.s x).1=5∧(tkP b.a b.n b.L b.s x).2.2=b.s))∧∀ p,(tkP b.a b.n b.L b.s x).2.2.K p=2→b.s.K p=2∨((tkP b.a b.n b.L b.s x).1=0∧p=(tkP b.a b.n b.L b.s x).2.1):=by
 unfold tkP
 cases hf:freeF b.L b.a b.n with
 | none=>exact ⟨.inr ⟨rfl,rfl⟩,fun p hp=>.inl hp⟩
 | some f =>
  obtain ⟨h1,h2,h3⟩:=free_some hf
  obtain ⟨hkf,hmf⟩:=h.kind f h1 h2
  have hr:=h.rng
  dsimp only
  by_cases k1:b.s.K f=1
  ·have hc:b.s.chg (f:Nat) 1 1 2 2=(0,b.s.turn f 2 2):=by rw [chg_one (by omega) k1 hmf,ht.l,isR_nilE];rfl
   rw [if_pos k1,hc,if_pos rfl]
   refine ⟨.inl rfl,fun p hp=>?_⟩
   have hp:(b.s.turn f 2 2).K p=2:=hp
   rw [turn_K] at hp
   by_cases e:p=f
   ·exact .inr ⟨rfl,e⟩
   ·rw [if_neg e] at hp;exact .inl hp
  ·rw [if_neg k1]
   exact ⟨.inl rfl,fun p hp=>.inl hp⟩
theorem giv_tight:∀ {G:List Nat} {s:Sy},s.l=[]→(∀ f ∈ G,f < 1024∧s.K f=2∧s.M f=false)→G.Nodup→(givP s G).l=[]∧∀ p,(givP s G).K p=if p ∈ G then 1 else s.K p
 | [],s,hl,_,_=>⟨hl,fun p=>by rw [if_neg (by simp)];rfl⟩
 | f::G,s,hl,h,hn=>by
  obtain ⟨hf,hk,hm⟩:=h f (List.mem_cons_self ..)
  rw [List.nodup_cons] at hn
  show (givP (s.chg (f:Nat) 1 2 1 3).2 G).l=[]∧∀ p,(givP (s.chg (f:Nat) 1 2 1 3).2 G).K p=_
  have hc:s.chg (f:Nat) 1 2 1 3=(0,s.turn f 1 3):=by rw [chg_one hf hk hm,hl,isR_nilE];rfl
  rw [hc]
  obtain ⟨i1,i2⟩:=giv_tight (G:=G) (s:=s.turn f 1 3) hl (fun g hgm=>by
   obtain ⟨a1,a2,a3⟩:=h g (List.mem_cons_of_mem _ hgm)
   exact ⟨a1,by rw [turn_K,if_neg (fun e:g=f=>hn.1 (e▸hgm))];exact a2,a3⟩) hn.2
  refine ⟨i1,fun p=>?_⟩
  rw [i2,turn_K]
  by_cases e:p=f
  ·subst e;rw [if_neg hn.1,if_pos rfl,if_pos (List.mem_cons_self ..)]
  ·rw [if_neg e]
   by_cases e2:p ∈ G
   ·rw [if_pos e2,if_pos (List.mem_cons_of_mem _ e2)]
   ·rw [if_neg e2,if_neg fun hc=>(List.mem_cons.1 hc).elim e e2]
theorem tight_map (h:GoodB b) (ht:Tight b) (x k:Int):Tight (b.map x k).2:=by
 unfold Bk.map
 split
 ·exact ht
 split
 ·exact ht
 split
 ·exact ht
 obtain ⟨t1,t2⟩:=tk_tight h ht fun _=>0
 split
 ·refine ⟨tk_l ht.l,fun f h1 h2 hk=>?_⟩
  show 0 < cntF (insV _ b.L) f
  rw [cnt_ins]
  rcases t2 f hk with hk | ⟨_,e⟩
  ·have:=ht.no f h1 h2 hk;omega
  ·rw [if_pos e.symm];omega
 ·rename_i he
  refine ⟨tk_l ht.l,fun f h1 h2 hk=>?_⟩
  rcases t2 f hk with hk | ⟨e,_⟩
  ·exact ht.no f h1 h2 hk
  ·exact absurd e he
theorem tight_unmap (h:GoodB b) (ht:Tight b) (x k:Int):Tight (b.unmap x k).2:=by
 unfold Bk.unmap
 split
 ·exact ht
 cases hf:fndL b.L x.toNat k.toNat with
 | none=>exact ht
 | some v =>
  obtain ⟨hv,hva⟩:=fnd_some hf
  have hcnt:∀ f,0 < cntF b.L f→f ≠ v.2.2.1→0 < cntF (delL b.L x.toNat k.toNat) f:=fun f hc hne=>by
   obtain ⟨u,hu,e⟩:=cnt_posE.1 hc
   refine cnt_posE.2 ⟨u,mem_del.2 ⟨hu,fun ha=>hne ?_⟩,e⟩
   rw [← e,srt_uniq h.sr hu hv (ha.1.trans hva.1.symm) (ha.2.trans hva.2.symm)]
  dsimp only
  by_cases h0:cntF (delL b.L x.toNat k.toNat) v.2.2.1=0
  ·rw [if_pos h0]
   obtain ⟨g1,g2⟩:=giv_tight ht.l (one_ok h hv) (by simp)
   refine ⟨g1,fun f h1 h2 hk=>?_⟩
   have hk:(givP b.s [v.2.2.1]).K f=2:=hk
   rw [g2] at hk
   by_cases e:f ∈ [v.2.2.1]
   ·rw [if_pos e] at hk;exact absurd hk (by decide)
   ·rw [if_neg e] at hk
    exact hcnt f (ht.no f h1 h2 hk) fun e2=>e (by rw [e2];simp)
  ·rw [if_neg h0]
   refine ⟨ht.l,fun f h1 h2 hk=>?_⟩
   by_cases e:f=v.2.2.1
   ·show 0 < cntF (delL b.L x.toNat k.toNat) f
    rw [e];omega
   ·exact hcnt f (ht.no f h1 h2 hk) e
theorem frk_cnt {x y:Nat} {L:List Vw} {f:Nat} (h:0 < cntF L f):0 < cntF (frkL x y L) f:=by
 obtain ⟨u,hu,e⟩:=cnt_posE.1 h
 exact cnt_posE.2 ⟨wnV x u,frk_mem.2 (.inl ⟨u,hu,rfl⟩),e⟩
theorem tight_take (ht:Tight b) (x y:Int):Tight (b.take x y).2.2:=by
 unfold Bk.take
 split
 ·exact ht
 split
 ·exact ht
 split
 ·exact ht
 split
 ·exact ht
 exact ⟨ht.l,fun f h1 h2 hk=>frk_cnt (ht.no f h1 h2 hk)⟩
theorem tight_gone (h:GoodB b) (ht:Tight b) (x:Nat) {L':List Vw} (hc:∀ f,0 < cntF (noA x b.L) f→0 < cntF L' f):Tight { b with L:=L',s:=givP b.s (goneL b.L x) }:=by
 obtain ⟨g1,g2⟩:=giv_tight ht.l (gone_ok h x) gone_nodup
 refine ⟨g1,fun f h1 h2 hk=>?_⟩
 dsimp only at h1 h2 hk
 rw [g2] at hk
 by_cases e:f ∈ goneL b.L x
 ·rw [if_pos e] at hk;exact absurd hk (by decide)
 ·rw [if_neg e] at hk
  refine hc f (Classical.byContradiction fun h0=>e (gone_mem.2 ?_))
  have hr:=h.rng
  obtain ⟨u,hu,eu⟩:=cnt_posE.1 (ht.no f h1 h2 hk)
  refine ⟨by omega,⟨u,hu,Classical.byContradiction fun hne=>h0 (cnt_posE.2 ⟨u,mem_noA.2 ⟨hu,hne⟩,eu⟩),eu⟩,by omega⟩
theorem tight_drop (h:GoodB b) (ht:Tight b) (x:Int):Tight (b.drop x).2.2:=by
 unfold Bk.drop
 split
 ·exact ht
 ·show Tight { b with L:=noA x.toNat b.L,s:=givP b.s (goneL b.L x.toNat) }
  exact tight_gone h ht x.toNat fun f hf=>hf
theorem tight_revert (h:GoodB b) (ht:Tight b) (x y:Int):Tight (b.revert x y).2.2:=by
 unfold Bk.revert
 split
 ·exact ht
 split
 ·exact ht
 split
 ·exact ht
 ·show Tight { b with L:=frkL y.toNat x.toNat (noA x.toNat b.L),s:=givP b.s (goneL b.L x.toNat) }
  exact tight_gone h ht x.toNat fun f hf=>frk_cnt hf
theorem tight_put (ht:Tight b) (x t v:Int):Tight (b.put x t v).2:=by
 unfold Bk.put
 split
 ·exact ⟨write_l.trans ht.l,fun f h1 h2 hk=>ht.no f h1 h2 (by
   have hk:(b.s.write (b.where_ x t true).1 v).2.K f=2:=hk
   rwa [write_Kp] at hk)⟩
 ·exact ht
end
end Go.Pol
namespace Go.Pol
open Go.Am Go.Proofs.YtphggldkligldaaGreat.Sh
theorem set_split {g:Vw→Vw} {A B:List Vw} {v:Vw} (hs:srt (A++v::B)):setL g v.1 v.2.1 (A++v::B)=A++g v::B:=by
 have hne:=mid_ne hs
 unfold setL
 rw [List.map_append,List.map_cons,if_pos ⟨rfl,rfl⟩]
 congr 1
 ·conv=>rhs;rw [← List.map_id A]
  exact List.map_congr_left fun w hw=>if_neg (hne.1 w hw)
 ·congr 1
  conv=>rhs;rw [← List.map_id B]
  exact List.map_congr_left fun w hw=>if_neg (hne.2 w hw)
theorem del_split {A B:List Vw} {v:Vw} (hs:srt (A++v::B)):delL (A++v::B) v.1 v.2.1=A++B:=by
 have hne:=mid_ne hs
 unfold delL
 rw [List.filter_append,List.filter_cons,if_neg (by simp [atV])]
 congr 1
 ·exact List.filter_eq_self.2 fun w hw=>by simpa using hne.1 w hw
 ·exact List.filter_eq_self.2 fun w hw=>by simpa using hne.2 w hw
section
variable {b:Bk}
theorem cnt_pr {A B:List Vw} {v:Vw} {w:Bool} {f:Nat}:cntF (A++prV w v::B) f=cntF (A++v::B) f:=by
 rw [cnt_app,cnt_app,cnt_cons,cnt_cons];rfl
theorem cnt_fr {A B:List Vw} {v:Vw} {f p:Nat}:cntF (A++frV f v::B) p+(if v.2.2.1=p then 1 else 0)=cntF (A++v::B) p+if f=p then 1 else 0:=by
 rw [cnt_app,cnt_app,cnt_cons,cnt_cons]
 show cntF A p+((if f=p then 1 else 0)+cntF B p)+_=_
 omega
theorem tight_write (h:GoodB b) (ht:Tight b) (x t v:Int):Tight (b.write x t v).2:=by
 unfold Bk.write
 split
 ·exact ht
 cases hf:fndL b.L x.toNat (t.toNat / 64) with
 | none=>exact ht
 | some u =>
  obtain ⟨hu,ha⟩:=fnd_some hf
  have ha1:u.1=x.toNat:=ha.1
  have ha2:u.2.1=t.toNat / 64:=ha.2
  obtain ⟨A,B,hL⟩:=List.append_of_mem hu
  have hs:=h.sr
  dsimp only
  split
  ·exact tight_put ht x t v
  ·split
   ·have ht2:Tight { b with L:=setL (prV true) x.toNat (t.toNat / 64) b.L }:=by
     refine ⟨ht.l,fun f h1 h2 hk=>?_⟩
     have:=ht.no f h1 h2 hk
     show 0 < cntF (setL (prV true) x.toNat (t.toNat / 64) b.L) f
     rw [hL] at hs this ⊢
     rw [← ha1,← ha2,set_split hs,cnt_pr];exact this
    exact tight_put ht2 x t v
   ·rename_i h1c
    obtain ⟨t1,t2⟩:=tk_tight h ht (b.s.B u.2.2.1)
    have tk:=h.tk (b.s.B u.2.2.1)
    split
    ·rename_i he
     obtain ⟨u1,u2,u3,u4,u5⟩:=tk.got he
     have ht2:Tight { b with L:=setL (frV (tkP b.a b.n b.L b.s (b.s.B u.2.2.1)).2.1) x.toNat (t.toNat / 64) b.L,s:=(tkP b.a b.n b.L b.s (b.s.B u.2.2.1)).2.2 }:=by
      refine ⟨tk_l ht.l,fun f h1 h2 hk=>?_⟩
      dsimp only at h1 h2 hk ⊢
      have hc0:0 < cntF b.L u.2.2.1:=cnt_posE.2 ⟨u,hu,rfl⟩
      generalize tkP b.a b.n b.L b.s (b.s.B u.2.2.1)=r at *
      have key:cntF (setL (frV r.2.1) x.toNat (t.toNat / 64) b.L) f+(if u.2.2.1=f then 1 else 0)=cntF b.L f+if r.2.1=f then 1 else 0:=by
       have hs2:=hs
       rw [hL] at hs2 ⊢
       rw [← ha1,← ha2,set_split hs2,cnt_fr]
      rcases t2 f hk with hk | ⟨_,e⟩
      ·have h5:=ht.no f h1 h2 hk
       by_cases e:u.2.2.1=f
       ·rw [if_pos e] at key;rw [e] at hc0 h1c;split at key<;>omega
       ·rw [if_neg e] at key;split at key<;>omega
      ·rw [if_pos e.symm] at key
       have hne:u.2.2.1 ≠ r.2.1:=fun e3=>by rw [e3] at hc0;omega
       rw [if_neg fun e4=>hne (e4.trans e)] at key
       omega
     exact tight_put ht2 x t v
    ·rename_i he
     refine ⟨tk_l ht.l,fun f h1 h2 hk=>?_⟩
     rcases t2 f hk with hk | ⟨e,_⟩
     ·exact ht.no f h1 h2 hk
     ·exact absurd e he
end
end Go.Pol
namespace Go.Pol
open Go.Am Go.Proofs.YtphggldkligldaaGreat.Sh
def Bk.rd (b:Bk) (a k j:Nat):Option Int:=(fndL b.L a k).map fun v=>b.s.B v.2.2.1 j
theorem fnd_of {M:List Vw} (hs:srt M) {v:Vw} {a k:Nat} (hv:v ∈ M) (h1:v.1=a) (h2:v.2.1=k):fndL M a k=some v:=by
 rw [← h1,← h2];exact fnd_yes hs hv
theorem fnd_ins {L:List Vw} {v:Vw} (hs:srt L) (hn:∀ u ∈ L,¬ atV (v.1,v.2.1) u) (a k:Nat):fndL (insV v L) a k=if v.1=a∧v.2.1=k then some v else fndL L a k:=by
 have hs2:=srt_ins hs hn
 split
 ·rename_i h;exact fnd_of hs2 (mem_ins.2 (.inl rfl)) h.1 h.2
 ·rename_i h
  cases hf:fndL L a k with
  | none =>
   refine fnd_no fun u hu hau=>?_
   rcases mem_ins.1 hu with rfl|hu
   ·exact h hau
   ·exact fnd_none hf u hu hau
  | some u =>
   obtain ⟨h1,h2⟩:=fnd_some hf
   exact fnd_of hs2 (mem_ins.2 (.inr h1)) h2.1 h2.2
theorem fnd_del {L:List Vw} (hs:srt L) (x y a k:Nat):fndL (delL L x y) a k=if x=a∧y=k then none else fndL L a k:=by
 have hs2:srt (delL L x y):=hs.sublist List.filter_sublist
 split
 ·rename_i h
  refine fnd_no fun u hu hau=>(mem_del.1 hu).2 ?_
  rw [h.1,h.2];exact hau
 ·rename_i h
  cases hf:fndL L a k with
  | none=>exact fnd_no fun u hu hau=>fnd_none hf u (mem_del.1 hu).1 hau
  | some u =>
   obtain ⟨h1,h2⟩:=fnd_some hf
   exact fnd_of hs2 (mem_del.2 ⟨h1,fun h3=>h ⟨h3.1.symm.trans h2.1,h3.2.symm.trans h2.2⟩⟩) h2.1 h2.2
theorem fnd_noA {L:List Vw} (hs:srt L) (x a k:Nat):fndL (noA x L) a k=if x=a then none else fndL L a k:=by
 have hs2:srt (noA x L):=hs.sublist List.filter_sublist
 split
 ·rename_i h
  exact fnd_no fun u hu hau=>(mem_noA.1 hu).2 (hau.1.trans h.symm)
 ·rename_i h
  cases hf:fndL L a k with
  | none=>exact fnd_no fun u hu hau=>fnd_none hf u (mem_noA.1 hu).1 hau
  | some u =>
   obtain ⟨h1,h2⟩:=fnd_some hf
   exact fnd_of hs2 (mem_noA.2 ⟨h1,fun e=>h (e.symm.trans h2.1)⟩) h2.1 h2.2
theorem fnd_frk {L:List Vw} (hs:srt L) {x y:Nat} (hxy:x ≠ y) (hy:ofA y L=[]) (a k:Nat):fndL (frkL x y L) a k=if a=y then (fndL L x k).map (cpV y) else (fndL L a k).map (wnV x):=by
 have hs2:=frk_srt (x:=x) hs hy
 have hny:∀ v ∈ L,v.1 ≠ y:=fun v hv e=>by
  have : v ∈ ofA y L:=mem_ofA.2 ⟨hv,e⟩
  rw [hy] at this;cases this
 split
 ·rename_i h
  subst h
  cases hf:fndL L x k with
  | none =>
   refine fnd_no fun u hu hau=>?_
   rcases frk_mem.1 hu with ⟨w,hw,rfl⟩ | ⟨w,hw,h1,rfl⟩
   ·exact hny w hw hau.1
   ·exact fnd_none hf w hw ⟨h1,hau.2⟩
  | some u =>
   obtain ⟨h1,h2⟩:=fnd_some hf
   exact fnd_of hs2 (frk_mem.2 (.inr ⟨u,h1,h2.1,rfl⟩)) rfl h2.2
 ·rename_i h
  cases hf:fndL L a k with
  | none =>
   refine fnd_no fun u hu hau=>?_
   rcases frk_mem.1 hu with ⟨w,hw,rfl⟩ | ⟨w,hw,h1,rfl⟩
   ·exact fnd_none hf w hw hau
   ·exact h hau.1.symm
  | some u =>
   obtain ⟨h1,h2⟩:=fnd_some hf
   exact fnd_of hs2 (frk_mem.2 (.inl ⟨u,h1,rfl⟩)) h2.1 h2.2
theorem fnd_set {L:List Vw} (hs:srt L) {g:Vw→Vw} (hg:∀ v,(g v).1=v.1∧(g v).2.1=v.2.1) (x y a k:Nat):fndL (setL g x y L) a k=(fndL L a k).map fun v=>if x=a∧y=k then g v else v:=by
 have hs2:=set_srt (a:=x) (k:=y) hg hs
 cases hf:fndL L a k with
 | none =>
  refine fnd_no fun u hu hau=>?_
  obtain ⟨w,hw,rfl⟩:=set_mem.1 hu
  refine fnd_none hf w hw ?_
  split at hau
  ·exact ⟨(hg w).1.symm.trans hau.1,(hg w).2.symm.trans hau.2⟩
  ·exact hau
 | some u =>
  obtain ⟨h1,h2⟩:=fnd_some hf
  have e:(if atV (x,y) u then g u else u)=if x=a∧y=k then g u else u:=by
   have h3:atV (x,y) u ↔ x=a∧y=k:=⟨fun h=>⟨h.1.symm.trans h2.1,h.2.symm.trans h2.2⟩,fun h=>⟨h2.1.trans h.1.symm,h2.2.trans h.2.symm⟩⟩
   by_cases h4:atV (x,y) u
   ·rw [if_pos h4,if_pos (h3.1 h4)]
   ·rw [if_neg h4,if_neg fun h5=>h4 (h3.2 h5)]
  refine fnd_of hs2 (set_mem.2 ⟨u,h1,e.symm⟩) ?_ ?_
  ·show (if x=a∧y=k then g u else u).1=a
   split
   ·exact (hg u).1.trans h2.1
   ·exact h2.1
  ·show (if x=a∧y=k then g u else u).2.1=k
   split
   ·exact (hg u).2.trans h2.2
   ·exact h2.2
section
variable {b:Bk}
theorem rd_of {b':Bk} {a k j:Nat} {g:Vw→Vw} (hf:fndL b'.L a k=(fndL b.L a k).map g) (hB:∀ v ∈ b.L,v.1=a→v.2.1=k→b'.s.B (g v).2.2.1 j=b.s.B v.2.2.1 j):b'.rd a k j=b.rd a k j:=by
 unfold Bk.rd
 rw [hf]
 cases h:fndL b.L a k with
 | none=>rfl
 | some v =>
  obtain ⟨h1,h2⟩:=fnd_some h
  exact congrArg some (hB v h1 h2.1 h2.2)
theorem rd_same {b':Bk} (hL:b'.L=b.L) (hB:∀ v ∈ b.L,b'.s.B v.2.2.1=b.s.B v.2.2.1) (a k j:Nat):b'.rd a k j=b.rd a k j:=rd_of (g:=id) (by rw [hL];simp) fun v hv _ _=>by rw [show (id v)=v from rfl,hB v hv]
theorem map_keeps (h:GoodB b) (x k:Int) (he:(b.map x k).1 ≠ 0) (a c j:Nat):(b.map x k).2.L=b.L∧(b.map x k).2.rd a c j=b.rd a c j∧(∀ f,0 < cntF b.L f→(b.map x k).2.s.B f=b.s.B f):=by
 unfold Bk.map at he ⊢
 split
 ·exact ⟨rfl,rfl,fun _ _=>rfl⟩
 split
 ·exact ⟨rfl,rfl,fun _ _=>rfl⟩
 split
 ·exact ⟨rfl,rfl,fun _ _=>rfl⟩
 rename_i h1 h2 h3
 rw [if_neg h1,if_neg h2,if_neg h3] at he
 have tk:=h.tk fun _=>0
 split
 ·rename_i h0;rw [if_pos h0] at he;exact absurd rfl he
 ·exact ⟨rfl,rd_same (b:=b) (b':={ b with s:=(tkP b.a b.n b.L b.s fun _=>0).2.2 }) rfl (fun v hv=>tk.old _ (cnt_posE.2 ⟨v,hv,rfl⟩)) a c j,fun f hf=>tk.old f hf⟩
theorem map_rd (h:GoodB b) (x k:Int) (he:(b.map x k).1=0) (a c j:Nat) (hj:j < 64):inR 64 x∧inR 1024 k∧fndL b.L x.toNat k.toNat=none∧(b.map x k).2.rd a c j=if x.toNat=a∧k.toNat=c then some 0 else b.rd a c j:=by
 unfold Bk.map at he ⊢
 split at he
 ·exact absurd he (by decide:¬ (7:Int)=0)
 rename_i hin
 have hin2:inR 64 x∧inR 1024 k:=Classical.not_not.1 hin
 rw [if_neg hin]
 split at he
 ·exact absurd he (by decide:¬ (8:Int)=0)
 rename_i hf
 rw [if_neg hf]
 have hfn:fndL b.L x.toNat k.toNat=none:=by
  cases hq:fndL b.L x.toNat k.toNat with
  | none=>rfl
  | some v=>rw [hq] at hf;exact absurd rfl hf
 have hn:=fnd_none hfn
 split at he
 ·exact absurd he (by decide:¬ (5:Int)=0)
 rename_i hl
 rw [if_neg hl]
 have tk:=h.tk fun _=>0
 split at he
 ·rename_i h0
  rw [if_pos h0]
  refine ⟨hin2.1,hin2.2,hfn,?_⟩
  obtain ⟨u1,u2,u3,u4,u5⟩:=tk.got h0
  dsimp only
  generalize tkP b.a b.n b.L b.s (fun _=>0)=r at *
  have hfi:=fnd_ins (v:=(x.toNat,k.toNat,r.2.1,true)) h.sr hn a c
  dsimp only at hfi
  unfold Bk.rd
  dsimp only
  rw [hfi]
  split
  ·show some (r.2.2.B r.2.1 j)=some 0
   rw [u5 j hj]
  ·cases hq:fndL b.L a c with
   | none=>rfl
   | some w =>
    obtain ⟨hw,_⟩:=fnd_some hq
    show some (r.2.2.B w.2.2.1 j)=some (b.s.B w.2.2.1 j)
    rw [tk.old _ (cnt_posE.2 ⟨w,hw,rfl⟩)]
 ·rename_i h0;exact absurd he h0
theorem giv_B (h:GoodB b) {G:List Nat} (hG:∀ f ∈ G,f < 1024∧b.s.K f=2∧b.s.M f=false) (hn:G.Nodup) {f:Nat} (hf:f ∉ G):(givP b.s G).B f=b.s.B f:=((giv_spec h.good hG hn).2.2.1 f hf).2
theorem unmap_no (x k:Int) (he:(b.unmap x k).1 ≠ 0):(b.unmap x k).2=b:=by
 unfold Bk.unmap at he ⊢
 split
 ·rfl
 rename_i hin
 rw [if_neg hin] at he
 cases hf:fndL b.L x.toNat k.toNat with
 | none=>rfl
 | some v=>rw [hf] at he;exact absurd rfl he
theorem unmap_rd (h:GoodB b) (x k:Int) (he:(b.unmap x k).1=0) (a c j:Nat):inR 64 x∧inR 1024 k∧fndL b.L x.toNat k.toNat ≠ none∧(b.unmap x k).2.rd a c j=if x.toNat=a∧k.toNat=c then none else b.rd a c j:=by
 unfold Bk.unmap at he ⊢
 split at he
 ·exact absurd he (by decide:¬ (7:Int)=0)
 rename_i hin
 have hin2:inR 64 x∧inR 1024 k:=Classical.not_not.1 hin
 rw [if_neg hin]
 cases hf:fndL b.L x.toNat k.toNat with
 | none=>rw [hf] at he;exact absurd he (by decide:¬ (4:Int)=0)
 | some v =>
  obtain ⟨hv,hva⟩:=fnd_some hf
  refine ⟨hin2.1,hin2.2,by simp,?_⟩
  have hfd:=fnd_del h.sr x.toNat k.toNat a c
  unfold Bk.rd
  dsimp only
  rw [hfd]
  by_cases hne:x.toNat=a∧k.toNat=c
  ·rw [if_pos hne,if_pos hne];rfl
  ·rw [if_neg hne,if_neg hne]
   cases hq:fndL b.L a c with
   | none=>rfl
   | some w =>
    obtain ⟨hw,hwa⟩:=fnd_some hq
    simp only [Option.map_some]
    refine congrArg some ?_
    split
    ·rename_i h0
     rw [giv_B h (one_ok h hv) (by simp) (fun hm=>?_)]
     have hwd:w ∈ delL b.L x.toNat k.toNat:=mem_del.2 ⟨hw,fun h3=>hne ⟨h3.1.symm.trans hwa.1,h3.2.symm.trans hwa.2⟩⟩
     have:=cnt_posE.2 ⟨w,hwd,List.mem_singleton.1 hm⟩
     omega
    ·rfl
theorem take_no (x y:Int) (he:(b.take x y).2.1 ≠ 0):(b.take x y).2.2=b:=by
 unfold Bk.take at he ⊢
 split
 ·rfl
 rename_i h1;rw [if_neg h1] at he
 split
 ·rfl
 rename_i h2;rw [if_neg h2] at he
 split
 ·rfl
 rename_i h3;rw [if_neg h3] at he
 split
 ·rfl
 rename_i h4;rw [if_neg h4] at he
 exact absurd rfl he
theorem take_rd (h:GoodB b) (x y:Int) (he:(b.take x y).2.1=0):inR 64 x∧inR 64 y∧x ≠ y∧∀ a c j,(b.take x y).2.2.rd a c j=if a=y.toNat then b.rd x.toNat c j else b.rd a c j:=by
 unfold Bk.take at he ⊢
 split at he
 ·exact absurd he (by decide:¬ (7:Int)=0)
 rename_i hin
 have hin2:inR 64 x∧inR 64 y:=Classical.not_not.1 hin
 rw [if_neg hin]
 split at he
 ·exact absurd he (by decide:¬ (2:Int)=0)
 rename_i hxy
 rw [if_neg hxy]
 split at he
 ·exact absurd he (by decide:¬ (8:Int)=0)
 rename_i h8
 rw [if_neg h8]
 split at he
 ·exact absurd he (by decide:¬ (5:Int)=0)
 rename_i h5
 rw [if_neg h5]
 refine ⟨hin2.1,hin2.2,hxy,fun a c j=>?_⟩
 have hx0:=hin2.1.1;have hx1:=hin2.1.2;have hy0:=hin2.2.1;have hy1:=hin2.2.2
 have hne:x.toNat ≠ y.toNat:=by omega
 have hf:=fnd_frk h.sr hne (List.eq_nil_of_length_eq_zero (by omega)) a c
 unfold Bk.rd
 dsimp only
 rw [hf]
 split
 ·cases fndL b.L x.toNat c<;>rfl
 ·cases fndL b.L a c<;>rfl
theorem gone_B (h:GoodB b) (x:Nat) {u:Vw} (hu:u ∈ noA x b.L):(givP b.s (goneL b.L x)).B u.2.2.1=b.s.B u.2.2.1:=giv_B h (gone_ok h x) gone_nodup fun hg=>by
 have:=(gone_mem.1 hg).2.2
 have : 0 < cntF (noA x b.L) u.2.2.1:=cnt_posE.2 ⟨u,hu,rfl⟩
 omega
theorem drop_no (x:Int) (he:(b.drop x).2.1 ≠ 0):(b.drop x).2.2=b:=by
 unfold Bk.drop at he ⊢
 split
 ·rfl
 rename_i h1;rw [if_neg h1] at he;exact absurd rfl he
theorem drop_rd (h:GoodB b) (x:Int) (he:(b.drop x).2.1=0):inR 64 x∧∀ a c j,(b.drop x).2.2.rd a c j=if a=x.toNat then none else b.rd a c j:=by
 unfold Bk.drop at he ⊢
 split at he
 ·exact absurd he (by decide:¬ (7:Int)=0)
 rename_i hin
 rw [if_neg hin]
 refine ⟨Classical.not_not.1 hin,fun a c j=>?_⟩
 have hf:=fnd_noA h.sr x.toNat a c
 unfold Bk.rd
 dsimp only
 rw [hf]
 by_cases e:x.toNat=a
 ·rw [if_pos e,if_pos e.symm];rfl
 ·rw [if_neg e,if_neg (Ne.symm e)]
  cases hq:fndL b.L a c with
  | none=>simp only [Option.map_none]
  | some w =>
   obtain ⟨hw,hwa⟩:=fnd_some hq
   simp only [Option.map_some];rw [gone_B h x.toNat (mem_noA.2 ⟨hw,fun e2=>e (e2.symm.trans hwa.1)⟩)]
theorem revert_no (x y:Int) (he:(b.revert x y).2.1 ≠ 0):(b.revert x y).2.2=b:=by
 unfold Bk.revert at he ⊢
 split
 ·rfl
 rename_i h1;rw [if_neg h1] at he
 split
 ·rfl
 rename_i h2;rw [if_neg h2] at he
 split
 ·rfl
 rename_i h3;rw [if_neg h3] at he
 exact absurd rfl he
theorem revert_rd (h:GoodB b) (x y:Int) (he:(b.revert x y).2.1=0):inR 64 x∧inR 64 y∧x ≠ y∧∀ a c j,(b.revert x y).2.2.rd a c j=if a=x.toNat then b.rd y.toNat c j else b.rd a c j:=by
 unfold Bk.revert at he ⊢
 split at he
 ·exact absurd he (by decide:¬ (7:Int)=0)
 rename_i hin
 have hin2:inR 64 x∧inR 64 y:=Classical.not_not.1 hin
 rw [if_neg hin]
 split at he
 ·exact absurd he (by decide:¬ (2:Int)=0)
 rename_i hxy
 rw [if_neg hxy]
 split at he
 ·exact absurd he (by decide:¬ (5:Int)=0)
 rename_i h5
 rw [if_neg h5]
 refine ⟨hin2.1,hin2.2,hxy,fun a c j=>?_⟩
 have hx0:=hin2.1.1;have hx1:=hin2.1.2;have hy0:=hin2.2.1;have hy1:=hin2.2.2
 have hne:y.toNat ≠ x.toNat:=by omega
 have hs:srt (noA x.toNat b.L):=h.sr.sublist List.filter_sublist
 have hf:=fnd_frk hs hne ofA_self a c
 have hf2:=fnd_noA h.sr x.toNat
 unfold Bk.rd
 dsimp only
 rw [hf]
 split
 ·rw [hf2,if_neg hne.symm]
  cases hq:fndL b.L y.toNat c with
  | none=>simp only [Option.map_none]
  | some w =>
   obtain ⟨hw,hwa⟩:=fnd_some hq
   simp only [Option.map_some,cpV];rw [gone_B h x.toNat (mem_noA.2 ⟨hw,fun e2=>hne (hwa.1.symm.trans e2)⟩)]
 ·rename_i e
  rw [hf2,if_neg (Ne.symm e)]
  cases hq:fndL b.L a c with
  | none=>simp only [Option.map_none]
  | some w =>
   obtain ⟨hw,hwa⟩:=fnd_some hq
   simp only [Option.map_some,wnV];rw [gone_B h x.toNat (mem_noA.2 ⟨hw,fun e2=>e (hwa.1.symm.trans e2)⟩)]
end
end Go.Pol
