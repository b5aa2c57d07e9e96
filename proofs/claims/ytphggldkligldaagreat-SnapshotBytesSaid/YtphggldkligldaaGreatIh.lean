/-
 followed,whatever the call.
-/
import Derived.Test.YtphggldkligldaaGreatIf
import Derived.Test.YtphggldkligldaaGreatIg
set_option linter.unusedSimpArgs false
set_option linter.unusedVariables false
namespace Go.Pol
open Go.Am
theorem hs_call {b:Bk} (h:H6 b) (ho:AQ5 b) {w:Nat} {x y t v:Int} {l:List Rl} (he:(b.call w x y t v l).1 ≠ 0) {H:Nat→Nat→Int} (hH:HsB b H):HsB (b.call w x y t v l).2 H:=fun k p hk hp=>by
 obtain ⟨h1,h2⟩:=call_no h ho w x y t v l he
 rw [hH k p hk hp]
 unfold Bk.hs
 rw [BF7 h1 fun u hu=>h2 _ (Y4.2 ⟨u,hu,rfl⟩)]
theorem hs_congr {b:Bk} {H H':Nat→Nat→Int} (h:∀ k p,H' k p=H k p) (hH:HsB b H):HsB b H':=fun k p hk hp=>by rw [h];exact hH k p hk hp
theorem AX3 {H:Nat→Nat→Int} {a:Nat} {g:Nat→Int} {k p:Nat}:AD8 H a g k p=if k=a then g p else H k p:=by unfold AD8;split<;>rfl
end Go.Pol
namespace Go.Proofs.YtphggldkligldaaGreat.Sh
open Go Go.Am Go.Pol
inductive FwR (x:Ax) (H H':Nat→Nat→Int):Prop
 | same:AD2 x H H' (9+0) 1 2 3 4 5 6 7 8→FwR x H H'
 | f0:AD2 x H H' (9+1) 9 2 3 4 5 6 7 8→FwR x H H'
 | f1:AD2 x H H' (9+1) 1 9 3 4 5 6 7 8→FwR x H H'
 | f2:AD2 x H H' (9+1) 1 2 9 4 5 6 7 8→FwR x H H'
 | f3:AD2 x H H' (9+1) 1 2 3 9 5 6 7 8→FwR x H H'
 | f4:AD2 x H H' (9+1) 1 2 3 4 9 6 7 8→FwR x H H'
 | f5:AD2 x H H' (9+1) 1 2 3 4 5 9 7 8→FwR x H H'
 | f6:AD2 x H H' (9+1) 1 2 3 4 5 6 9 8→FwR x H H'
 | f7:AD2 x H H' (9+1) 1 2 3 4 5 6 7 9→FwR x H H'
theorem l_follow {x:Ax} {w:Nat} (hw0:0≤x.w) (hwe:w=x.w.toNat % 14) (hv:0≤x.v∧x.v < 256) {H H':Nat→Nat→Int} (hf:fol H w x.a x.b x.t x.v=some H'):∃ H2,(∀ k p,H2 k p=H' k p)∧FwR x H H2:=by
 have hm:x.w.tmod 14=(w:Nat):=by rw [hwe,Int.tmod_eq_emod_of_nonneg hw0];omega
 unfold fol at hf
 by_cases c9:9 < w
 ·rw [if_pos c9] at hf
  obtain rfl:=Option.some.inj hf
  exact ⟨H,fun _ _=>rfl,.same (fw_none (by omega))⟩
 rw [if_neg c9] at hf
 by_cases ha:¬ inR 8 x.a
 ·rw [if_pos ha] at hf;cases hf
 rw [if_neg ha] at hf
 obtain ⟨a,ea,ha8⟩:=AF8 (Classical.not_not.1 ha)
 rw [ea,Int.toNat_natCast] at hf
 have ha8:a < 8:=by omega
 clear ha
 by_cases c3:w < 3
 ·rw [if_pos c3] at hf
  by_cases hc:¬ inR 1024 x.b∨¬ (H a (x.b.toNat * 64) < 0 ↔ w < 2)
  ·rw [if_pos hc] at hf;cases hf
  rw [if_neg hc] at hf
  obtain rfl:=Option.some.inj hf
  have hc1:inR 1024 x.b:=Classical.byContradiction fun h=>hc (.inl h)
  have hc2:H a (x.b.toNat * 64) < 0 ↔ w < 2:=Classical.byContradiction fun h=>hc (.inr h)
  obtain ⟨k,ek,hk⟩:=AF8 hc1
  rw [ek,Int.toNat_natCast] at hc2 ⊢
  have hk4:k < 1024:=by omega
  by_cases c2:w=2
  ·have hn:0≤H a (k * 64):=by omega
   have hy:x.w.tmod 14=2:=by omega
   refine ⟨AD8 H a fun p=>if p / 64=k then -1 else H a p,fun j p=>?_,?_⟩
   ·rw [AX3];dsimp only;rw [if_pos c2]
    by_cases e:j=a
    ·subst e;by_cases e2:p / 64=k
     ·rw [if_pos rfl,if_pos e2,if_pos ⟨rfl,e2⟩]
     ·rw [if_pos rfl,if_neg e2,if_neg fun h=>e2 h.2]
    ·rw [if_neg e,if_neg fun h=>e h.1]
   ·clear hc hc2
    rcases (show a=0∨a=1∨a=2∨a=3∨a=4∨a=5∨a=6∨a=7 by omega) with rfl|rfl|rfl|rfl|rfl|rfl|rfl|rfl
    ·exact .same (fw_unm0 hy ea hk4 ek hn)
    ·exact .same (fw_unm1 hy ea hk4 ek hn)
    ·exact .same (fw_unm2 hy ea hk4 ek hn)
    ·exact .same (fw_unm3 hy ea hk4 ek hn)
    ·exact .same (fw_unm4 hy ea hk4 ek hn)
    ·exact .same (fw_unm5 hy ea hk4 ek hn)
    ·exact .same (fw_unm6 hy ea hk4 ek hn)
    ·exact .same (fw_unm7 hy ea hk4 ek hn)
  ·have hn:H a (k * 64) < 0:=by omega
   have hy:x.w.tmod 14=0∨x.w.tmod 14=1:=by omega
   refine ⟨AD8 H a fun p=>if p / 64=k then 0 else H a p,fun j p=>?_,?_⟩
   ·rw [AX3];dsimp only;rw [if_neg c2]
    by_cases e:j=a
    ·subst e;by_cases e2:p / 64=k
     ·rw [if_pos rfl,if_pos e2,if_pos ⟨rfl,e2⟩]
     ·rw [if_pos rfl,if_neg e2,if_neg fun h=>e2 h.2]
    ·rw [if_neg e,if_neg fun h=>e h.1]
   ·clear hc hc2
    rcases (show a=0∨a=1∨a=2∨a=3∨a=4∨a=5∨a=6∨a=7 by omega) with rfl|rfl|rfl|rfl|rfl|rfl|rfl|rfl
    ·exact .same (fw_map0 hy ea hk4 ek hn)
    ·exact .same (fw_map1 hy ea hk4 ek hn)
    ·exact .same (fw_map2 hy ea hk4 ek hn)
    ·exact .same (fw_map3 hy ea hk4 ek hn)
    ·exact .same (fw_map4 hy ea hk4 ek hn)
    ·exact .same (fw_map5 hy ea hk4 ek hn)
    ·exact .same (fw_map6 hy ea hk4 ek hn)
    ·exact .same (fw_map7 hy ea hk4 ek hn)
 rw [if_neg c3] at hf
 by_cases c4:w=3
 ·rw [if_pos c4] at hf
  by_cases hc:¬ inR 8 x.b∨(a:Int)=x.b
  ·rw [if_pos hc] at hf;cases hf
  rw [if_neg hc] at hf
  obtain rfl:=Option.some.inj hf
  obtain ⟨b,eb,hb⟩:=AF8 (Classical.byContradiction fun h=>hc (.inl h):inR 8 x.b)
  have hne:a ≠ b:=fun e=>hc (.inr (by rw [eb,e]))
  have hb8:b < 8:=by omega
  have hy:x.w.tmod 14=3:=by omega
  refine ⟨AD8 H b (H a),fun j p=>by rw [AX3,eb,Int.toNat_natCast],?_⟩
  clear hc hb
  rcases (show b=0∨b=1∨b=2∨b=3∨b=4∨b=5∨b=6∨b=7 by omega) with rfl|rfl|rfl|rfl|rfl|rfl|rfl|rfl
  ·exact .f0 (fw_take0 hy ha8 hne ea eb)
  ·exact .f1 (fw_take1 hy ha8 hne ea eb)
  ·exact .f2 (fw_take2 hy ha8 hne ea eb)
  ·exact .f3 (fw_take3 hy ha8 hne ea eb)
  ·exact .f4 (fw_take4 hy ha8 hne ea eb)
  ·exact .f5 (fw_take5 hy ha8 hne ea eb)
  ·exact .f6 (fw_take6 hy ha8 hne ea eb)
  ·exact .f7 (fw_take7 hy ha8 hne ea eb)
 rw [if_neg c4] at hf
 by_cases c5:w=5
 ·rw [if_pos c5] at hf
  by_cases hc:¬ inR 8 x.b∨(a:Int)=x.b
  ·rw [if_pos hc] at hf;cases hf
  rw [if_neg hc] at hf
  obtain rfl:=Option.some.inj hf
  obtain ⟨b,eb,hb⟩:=AF8 (Classical.byContradiction fun h=>hc (.inl h):inR 8 x.b)
  have hne:b ≠ a:=fun e=>hc (.inr (by rw [eb,e]))
  have hb8:b < 8:=by omega
  have hy:x.w.tmod 14=5:=by omega
  refine ⟨AD8 H a (H b),fun j p=>by rw [AX3,eb,Int.toNat_natCast],?_⟩
  clear hc hb
  rcases (show a=0∨a=1∨a=2∨a=3∨a=4∨a=5∨a=6∨a=7 by omega) with rfl|rfl|rfl|rfl|rfl|rfl|rfl|rfl
  ·exact .f0 (fw_rev0 hy hb8 hne ea eb)
  ·exact .f1 (fw_rev1 hy hb8 hne ea eb)
  ·exact .f2 (fw_rev2 hy hb8 hne ea eb)
  ·exact .f3 (fw_rev3 hy hb8 hne ea eb)
  ·exact .f4 (fw_rev4 hy hb8 hne ea eb)
  ·exact .f5 (fw_rev5 hy hb8 hne ea eb)
  ·exact .f6 (fw_rev6 hy hb8 hne ea eb)
  ·exact .f7 (fw_rev7 hy hb8 hne ea eb)
 rw [if_neg c5] at hf
 by_cases c6:w=4
 ·rw [if_pos c6] at hf
  obtain rfl:=Option.some.inj hf
  have hy:x.w.tmod 14=4:=by omega
  refine ⟨AD8 H a fun _=>-1,fun j p=>by rw [AX3],?_⟩
  rcases (show a=0∨a=1∨a=2∨a=3∨a=4∨a=5∨a=6∨a=7 by omega) with rfl|rfl|rfl|rfl|rfl|rfl|rfl|rfl
  ·exact .f0 (fw_drop0 hy ea)
  ·exact .f1 (fw_drop1 hy ea)
  ·exact .f2 (fw_drop2 hy ea)
  ·exact .f3 (fw_drop3 hy ea)
  ·exact .f4 (fw_drop4 hy ea)
  ·exact .f5 (fw_drop5 hy ea)
  ·exact .f6 (fw_drop6 hy ea)
  ·exact .f7 (fw_drop7 hy ea)
 rw [if_neg c6] at hf
 by_cases hc:¬ inR 65536 x.t∨H a x.t.toNat < 0
 ·rw [if_pos hc] at hf;cases hf
 rw [if_neg hc] at hf
 obtain rfl:=Option.some.inj hf
 obtain ⟨t,et,ht⟩:=AF8 (Classical.byContradiction fun h=>hc (.inl h):inR 65536 x.t)
 have hn:0≤H a t:=by
  rw [et,Int.toNat_natCast] at hc
  omega
 refine ⟨AD8 H a fun p=>if p=t then x.v else H a p,fun j p=>?_,.same (fw_write hm (by omega) ha8 ea (by omega) et hv hn)⟩
 rw [AX3,et,Int.toNat_natCast];dsimp only
 by_cases e:j=a
 ·subst e;by_cases e2:p=t
  ·rw [if_pos rfl,if_pos e2,if_pos ⟨rfl,e2⟩]
  ·rw [if_pos rfl,if_neg e2,if_neg fun h=>e2 h.2]
 ·rw [if_neg e,if_neg fun h=>e h.1]
end Go.Proofs.YtphggldkligldaaGreat.Sh
