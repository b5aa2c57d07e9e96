/-
 followed: Take,Revert,Drop,Write,and the calls that change nothing.
-/
import Derived.Test.YtphggldkligldaaGreatIe
set_option linter.unusedSimpArgs false
set_option linter.unusedVariables false
set_option maxHeartbeats 6400000
namespace Go.Proofs.YtphggldkligldaaGreat.Sh
open Go Go.Am Go.Pol
theorem wx_Ign {p q:Prop} (hq:q) (h:X5 q→p:=by (intro hQz;((repeat' ((try (conv=>whnf));first|refine sxA ?_|refine AC7 (by with_reducible assumption) ?_|refine G5 (hg) ?_|refine D7 (by rw [Ah2];omega) hset ?_|refine Aj5 (BK3 (AT6 rfl Ah2) rfl rfl (by decide) (by decide)) ?_|refine sxN ?_|refine cx_Em ?_|refine dcx_Em ?_|refine sxH ?_|((with_reducible first|apply N9 hQz|apply O1 hQz)<;>(try intro hsp hQz))|exact hQz.out))<;>(try (conv=>whnf))))):p:=h ⟨hq⟩
section
variable {x:Ax} {H:Nat→Nat→Int}
theorem wrap16 {v:Int} (h:0≤v∧v < 256):IntKind.i16.wrap v=v:=by
 have e:v % (2 ^ 16:Int)=v:=Int.emod_eq_of_lt h.1 (by omega)
 show (if (true && decide (v % (2 ^ 16:Int) ≥ (2 ^ 15:Int)))=true then v % (2 ^ 16:Int) - (2 ^ 16:Int) else v % (2 ^ 16:Int))=v
 rw [e,if_neg (by simp;omega)]
theorem fw_none (hy:9 < x.w.tmod 14):AD2 x H H 9 1 2 3 4 5 6 7 8:=by
 refine ⟨D9 E9 b15 rfl ?_⟩
 unfold c15
 unfold hsN acE
 (refine wx_Tc ?_;repeat' (first|with_reducible refine And.intro ?_ ?_|intro hsp))
 all_goals first|(exfalso;omega)|exact U3 [] 1 2 3 4 5 6 7 8 rfl (by decide) rfl (by decide) rfl A9 rfl rfl rfl rfl rfl rfl rfl rfl rfl
theorem fw_write {w a t:Nat} (hy:x.w.tmod 14=(w:Nat)) (hw:6≤w∧w < 10) (ha:a < 8) (ea:x.a=(a:Nat)) (ht:t < 65536) (et:x.t=(t:Nat)) (hv:0≤x.v∧x.v < 256) (hn:0≤H a t):AD2 x H (AD8 H a fun p=>if p=t then x.v else H a p) 9 1 2 3 4 5 6 7 8:=by
 have hg:=W9 (f:=H a) ht
 have hset:=Ah1 (f:=H a) (p:=t) (v:=x.v)
 have hcv:IntKind.i16.wrap x.v=x.v:=wrap16 hv
 refine ⟨D9 E9 b15 rfl ?_⟩
 unfold c15
 unfold hsN acE
 rw [ea,et]
 rcases (show a=0∨a=1∨a=2∨a=3∨a=4∨a=5∨a=6∨a=7 by omega) with rfl|rfl|rfl|rfl|rfl|rfl|rfl|rfl
 all_goals
  (refine wx_Ign ?_;repeat' (first|with_reducible refine And.intro ?_ ?_|intro hsp))
  all_goals first|(exfalso;omega)|exact U3 [] 1 2 3 4 5 6 7 8 rfl (by decide) rfl (by decide) rfl A9 rfl rfl rfl rfl rfl rfl rfl rfl rfl
theorem fw_drop0 (hy:x.w.tmod 14=4) (ea:x.a=(0:Nat)):AD2 x H (AD8 H 0 fun _=>-1) 10 9 2 3 4 5 6 7 8:=by
 refine ⟨D9 E9 b15 rfl ?_⟩
 unfold c15
 unfold hsN acE
 rw [ea]
 (refine wx_Ign ?_;repeat' (first|with_reducible refine And.intro ?_ ?_|intro hsp))
 all_goals first|(exfalso;omega)|exact U3 [(9,13)] 9 2 3 4 5 6 7 8 rfl (by decide) rfl (by decide) rfl A9 rfl rfl rfl rfl rfl rfl rfl rfl rfl
theorem fw_take0 {b:Nat} (hy:x.w.tmod 14=3) (hb:b < 8) (hne:b ≠ 0) (ea:x.a=(b:Nat)) (eb:x.b=(0:Nat)):AD2 x H (AD8 H 0 (H b)) 10 9 2 3 4 5 6 7 8:=by
 refine ⟨D9 E9 b15 rfl ?_⟩
 unfold c15
 unfold hsN acE
 rw [ea,eb]
 rcases (show b=0∨b=1∨b=2∨b=3∨b=4∨b=5∨b=6∨b=7 by omega) with rfl|rfl|rfl|rfl|rfl|rfl|rfl|rfl
 all_goals first|(exfalso;omega)|skip
 all_goals
  (refine wx_Ign ?_;repeat' (first|with_reducible refine And.intro ?_ ?_|intro hsp))
  all_goals first|(exfalso;omega)|skip
  simp only [Nat.zero_add,List.nil_append]
  exact U3 [(9,17)] 9 2 3 4 5 6 7 8 rfl (by decide) rfl (by decide) rfl A9 rfl rfl rfl rfl rfl rfl rfl rfl rfl
theorem fw_rev0 {b:Nat} (hy:x.w.tmod 14=5) (hb:b < 8) (hne:b ≠ 0) (ea:x.a=(0:Nat)) (eb:x.b=(b:Nat)):AD2 x H (AD8 H 0 (H b)) 10 9 2 3 4 5 6 7 8:=by
 refine ⟨D9 E9 b15 rfl ?_⟩
 unfold c15
 unfold hsN acE
 rw [ea,eb]
 rcases (show b=0∨b=1∨b=2∨b=3∨b=4∨b=5∨b=6∨b=7 by omega) with rfl|rfl|rfl|rfl|rfl|rfl|rfl|rfl
 all_goals first|(exfalso;omega)|skip
 all_goals
  (refine wx_Ign ?_;repeat' (first|with_reducible refine And.intro ?_ ?_|intro hsp))
  all_goals first|(exfalso;omega)|skip
  simp only [Nat.zero_add,List.nil_append]
  exact U3 [(9,17)] 9 2 3 4 5 6 7 8 rfl (by decide) rfl (by decide) rfl A9 rfl rfl rfl rfl rfl rfl rfl rfl rfl
theorem fw_drop1 (hy:x.w.tmod 14=4) (ea:x.a=(1:Nat)):AD2 x H (AD8 H 1 fun _=>-1) 10 1 9 3 4 5 6 7 8:=by
 refine ⟨D9 E9 b15 rfl ?_⟩
 unfold c15
 unfold hsN acE
 rw [ea]
 (refine wx_Ign ?_;repeat' (first|with_reducible refine And.intro ?_ ?_|intro hsp))
 all_goals first|(exfalso;omega)|exact U3 [(9,13)] 1 9 3 4 5 6 7 8 rfl (by decide) rfl (by decide) rfl A9 rfl rfl rfl rfl rfl rfl rfl rfl rfl
theorem fw_take1 {b:Nat} (hy:x.w.tmod 14=3) (hb:b < 8) (hne:b ≠ 1) (ea:x.a=(b:Nat)) (eb:x.b=(1:Nat)):AD2 x H (AD8 H 1 (H b)) 10 1 9 3 4 5 6 7 8:=by
 refine ⟨D9 E9 b15 rfl ?_⟩
 unfold c15
 unfold hsN acE
 rw [ea,eb]
 rcases (show b=0∨b=1∨b=2∨b=3∨b=4∨b=5∨b=6∨b=7 by omega) with rfl|rfl|rfl|rfl|rfl|rfl|rfl|rfl
 all_goals first|(exfalso;omega)|skip
 all_goals
  (refine wx_Ign ?_;repeat' (first|with_reducible refine And.intro ?_ ?_|intro hsp))
  all_goals first|(exfalso;omega)|skip
  simp only [Nat.zero_add,List.nil_append]
  exact U3 [(9,17)] 1 9 3 4 5 6 7 8 rfl (by decide) rfl (by decide) rfl A9 rfl rfl rfl rfl rfl rfl rfl rfl rfl
theorem fw_rev1 {b:Nat} (hy:x.w.tmod 14=5) (hb:b < 8) (hne:b ≠ 1) (ea:x.a=(1:Nat)) (eb:x.b=(b:Nat)):AD2 x H (AD8 H 1 (H b)) 10 1 9 3 4 5 6 7 8:=by
 refine ⟨D9 E9 b15 rfl ?_⟩
 unfold c15
 unfold hsN acE
 rw [ea,eb]
 rcases (show b=0∨b=1∨b=2∨b=3∨b=4∨b=5∨b=6∨b=7 by omega) with rfl|rfl|rfl|rfl|rfl|rfl|rfl|rfl
 all_goals first|(exfalso;omega)|skip
 all_goals
  (refine wx_Ign ?_;repeat' (first|with_reducible refine And.intro ?_ ?_|intro hsp))
  all_goals first|(exfalso;omega)|skip
  simp only [Nat.zero_add,List.nil_append]
  exact U3 [(9,17)] 1 9 3 4 5 6 7 8 rfl (by decide) rfl (by decide) rfl A9 rfl rfl rfl rfl rfl rfl rfl rfl rfl
theorem fw_drop2 (hy:x.w.tmod 14=4) (ea:x.a=(2:Nat)):AD2 x H (AD8 H 2 fun _=>-1) 10 1 2 9 4 5 6 7 8:=by
 refine ⟨D9 E9 b15 rfl ?_⟩
 unfold c15
 unfold hsN acE
 rw [ea]
 (refine wx_Ign ?_;repeat' (first|with_reducible refine And.intro ?_ ?_|intro hsp))
 all_goals first|(exfalso;omega)|exact U3 [(9,13)] 1 2 9 4 5 6 7 8 rfl (by decide) rfl (by decide) rfl A9 rfl rfl rfl rfl rfl rfl rfl rfl rfl
theorem fw_take2 {b:Nat} (hy:x.w.tmod 14=3) (hb:b < 8) (hne:b ≠ 2) (ea:x.a=(b:Nat)) (eb:x.b=(2:Nat)):AD2 x H (AD8 H 2 (H b)) 10 1 2 9 4 5 6 7 8:=by
 refine ⟨D9 E9 b15 rfl ?_⟩
 unfold c15
 unfold hsN acE
 rw [ea,eb]
 rcases (show b=0∨b=1∨b=2∨b=3∨b=4∨b=5∨b=6∨b=7 by omega) with rfl|rfl|rfl|rfl|rfl|rfl|rfl|rfl
 all_goals first|(exfalso;omega)|skip
 all_goals
  (refine wx_Ign ?_;repeat' (first|with_reducible refine And.intro ?_ ?_|intro hsp))
  all_goals first|(exfalso;omega)|skip
  simp only [Nat.zero_add,List.nil_append]
  exact U3 [(9,17)] 1 2 9 4 5 6 7 8 rfl (by decide) rfl (by decide) rfl A9 rfl rfl rfl rfl rfl rfl rfl rfl rfl
theorem fw_rev2 {b:Nat} (hy:x.w.tmod 14=5) (hb:b < 8) (hne:b ≠ 2) (ea:x.a=(2:Nat)) (eb:x.b=(b:Nat)):AD2 x H (AD8 H 2 (H b)) 10 1 2 9 4 5 6 7 8:=by
 refine ⟨D9 E9 b15 rfl ?_⟩
 unfold c15
 unfold hsN acE
 rw [ea,eb]
 rcases (show b=0∨b=1∨b=2∨b=3∨b=4∨b=5∨b=6∨b=7 by omega) with rfl|rfl|rfl|rfl|rfl|rfl|rfl|rfl
 all_goals first|(exfalso;omega)|skip
 all_goals
  (refine wx_Ign ?_;repeat' (first|with_reducible refine And.intro ?_ ?_|intro hsp))
  all_goals first|(exfalso;omega)|skip
  simp only [Nat.zero_add,List.nil_append]
  exact U3 [(9,17)] 1 2 9 4 5 6 7 8 rfl (by decide) rfl (by decide) rfl A9 rfl rfl rfl rfl rfl rfl rfl rfl rfl
theorem fw_drop3 (hy:x.w.tmod 14=4) (ea:x.a=(3:Nat)):AD2 x H (AD8 H 3 fun _=>-1) 10 1 2 3 9 5 6 7 8:=by
 refine ⟨D9 E9 b15 rfl ?_⟩
 unfold c15
 unfold hsN acE
 rw [ea]
 (refine wx_Ign ?_;repeat' (first|with_reducible refine And.intro ?_ ?_|intro hsp))
 all_goals first|(exfalso;omega)|exact U3 [(9,13)] 1 2 3 9 5 6 7 8 rfl (by decide) rfl (by decide) rfl A9 rfl rfl rfl rfl rfl rfl rfl rfl rfl
theorem fw_take3 {b:Nat} (hy:x.w.tmod 14=3) (hb:b < 8) (hne:b ≠ 3) (ea:x.a=(b:Nat)) (eb:x.b=(3:Nat)):AD2 x H (AD8 H 3 (H b)) 10 1 2 3 9 5 6 7 8:=by
 refine ⟨D9 E9 b15 rfl ?_⟩
 unfold c15
 unfold hsN acE
 rw [ea,eb]
 rcases (show b=0∨b=1∨b=2∨b=3∨b=4∨b=5∨b=6∨b=7 by omega) with rfl|rfl|rfl|rfl|rfl|rfl|rfl|rfl
 all_goals first|(exfalso;omega)|skip
 all_goals
  (refine wx_Ign ?_;repeat' (first|with_reducible refine And.intro ?_ ?_|intro hsp))
  all_goals first|(exfalso;omega)|skip
  simp only [Nat.zero_add,List.nil_append]
  exact U3 [(9,17)] 1 2 3 9 5 6 7 8 rfl (by decide) rfl (by decide) rfl A9 rfl rfl rfl rfl rfl rfl rfl rfl rfl
theorem fw_rev3 {b:Nat} (hy:x.w.tmod 14=5) (hb:b < 8) (hne:b ≠ 3) (ea:x.a=(3:Nat)) (eb:x.b=(b:Nat)):AD2 x H (AD8 H 3 (H b)) 10 1 2 3 9 5 6 7 8:=by
 refine ⟨D9 E9 b15 rfl ?_⟩
 unfold c15
 unfold hsN acE
 rw [ea,eb]
 rcases (show b=0∨b=1∨b=2∨b=3∨b=4∨b=5∨b=6∨b=7 by omega) with rfl|rfl|rfl|rfl|rfl|rfl|rfl|rfl
 all_goals first|(exfalso;omega)|skip
 all_goals
  (refine wx_Ign ?_;repeat' (first|with_reducible refine And.intro ?_ ?_|intro hsp))
  all_goals first|(exfalso;omega)|skip
  simp only [Nat.zero_add,List.nil_append]
  exact U3 [(9,17)] 1 2 3 9 5 6 7 8 rfl (by decide) rfl (by decide) rfl A9 rfl rfl rfl rfl rfl rfl rfl rfl rfl
theorem fw_drop4 (hy:x.w.tmod 14=4) (ea:x.a=(4:Nat)):AD2 x H (AD8 H 4 fun _=>-1) 10 1 2 3 4 9 6 7 8:=by
 refine ⟨D9 E9 b15 rfl ?_⟩
 unfold c15
 unfold hsN acE
 rw [ea]
 (refine wx_Ign ?_;repeat' (first|with_reducible refine And.intro ?_ ?_|intro hsp))
 all_goals first|(exfalso;omega)|exact U3 [(9,13)] 1 2 3 4 9 6 7 8 rfl (by decide) rfl (by decide) rfl A9 rfl rfl rfl rfl rfl rfl rfl rfl rfl
theorem fw_take4 {b:Nat} (hy:x.w.tmod 14=3) (hb:b < 8) (hne:b ≠ 4) (ea:x.a=(b:Nat)) (eb:x.b=(4:Nat)):AD2 x H (AD8 H 4 (H b)) 10 1 2 3 4 9 6 7 8:=by
 refine ⟨D9 E9 b15 rfl ?_⟩
 unfold c15
 unfold hsN acE
 rw [ea,eb]
 rcases (show b=0∨b=1∨b=2∨b=3∨b=4∨b=5∨b=6∨b=7 by omega) with rfl|rfl|rfl|rfl|rfl|rfl|rfl|rfl
 all_goals first|(exfalso;omega)|skip
 all_goals
  (refine wx_Ign ?_;repeat' (first|with_reducible refine And.intro ?_ ?_|intro hsp))
  all_goals first|(exfalso;omega)|skip
  simp only [Nat.zero_add,List.nil_append]
  exact U3 [(9,17)] 1 2 3 4 9 6 7 8 rfl (by decide) rfl (by decide) rfl A9 rfl rfl rfl rfl rfl rfl rfl rfl rfl
theorem fw_rev4 {b:Nat} (hy:x.w.tmod 14=5) (hb:b < 8) (hne:b ≠ 4) (ea:x.a=(4:Nat)) (eb:x.b=(b:Nat)):AD2 x H (AD8 H 4 (H b)) 10 1 2 3 4 9 6 7 8:=by
 refine ⟨D9 E9 b15 rfl ?_⟩
 unfold c15
 unfold hsN acE
 rw [ea,eb]
 rcases (show b=0∨b=1∨b=2∨b=3∨b=4∨b=5∨b=6∨b=7 by omega) with rfl|rfl|rfl|rfl|rfl|rfl|rfl|rfl
 all_goals first|(exfalso;omega)|skip
 all_goals
  (refine wx_Ign ?_;repeat' (first|with_reducible refine And.intro ?_ ?_|intro hsp))
  all_goals first|(exfalso;omega)|skip
  simp only [Nat.zero_add,List.nil_append]
  exact U3 [(9,17)] 1 2 3 4 9 6 7 8 rfl (by decide) rfl (by decide) rfl A9 rfl rfl rfl rfl rfl rfl rfl rfl rfl
theorem fw_drop5 (hy:x.w.tmod 14=4) (ea:x.a=(5:Nat)):AD2 x H (AD8 H 5 fun _=>-1) 10 1 2 3 4 5 9 7 8:=by
 refine ⟨D9 E9 b15 rfl ?_⟩
 unfold c15
 unfold hsN acE
 rw [ea]
 (refine wx_Ign ?_;repeat' (first|with_reducible refine And.intro ?_ ?_|intro hsp))
 all_goals first|(exfalso;omega)|exact U3 [(9,13)] 1 2 3 4 5 9 7 8 rfl (by decide) rfl (by decide) rfl A9 rfl rfl rfl rfl rfl rfl rfl rfl rfl
theorem fw_take5 {b:Nat} (hy:x.w.tmod 14=3) (hb:b < 8) (hne:b ≠ 5) (ea:x.a=(b:Nat)) (eb:x.b=(5:Nat)):AD2 x H (AD8 H 5 (H b)) 10 1 2 3 4 5 9 7 8:=by
 refine ⟨D9 E9 b15 rfl ?_⟩
 unfold c15
 unfold hsN acE
 rw [ea,eb]
 rcases (show b=0∨b=1∨b=2∨b=3∨b=4∨b=5∨b=6∨b=7 by omega) with rfl|rfl|rfl|rfl|rfl|rfl|rfl|rfl
 all_goals first|(exfalso;omega)|skip
 all_goals
  (refine wx_Ign ?_;repeat' (first|with_reducible refine And.intro ?_ ?_|intro hsp))
  all_goals first|(exfalso;omega)|skip
  simp only [Nat.zero_add,List.nil_append]
  exact U3 [(9,17)] 1 2 3 4 5 9 7 8 rfl (by decide) rfl (by decide) rfl A9 rfl rfl rfl rfl rfl rfl rfl rfl rfl
theorem fw_rev5 {b:Nat} (hy:x.w.tmod 14=5) (hb:b < 8) (hne:b ≠ 5) (ea:x.a=(5:Nat)) (eb:x.b=(b:Nat)):AD2 x H (AD8 H 5 (H b)) 10 1 2 3 4 5 9 7 8:=by
 refine ⟨D9 E9 b15 rfl ?_⟩
 unfold c15
 unfold hsN acE
 rw [ea,eb]
 rcases (show b=0∨b=1∨b=2∨b=3∨b=4∨b=5∨b=6∨b=7 by omega) with rfl|rfl|rfl|rfl|rfl|rfl|rfl|rfl
 all_goals first|(exfalso;omega)|skip
 all_goals
  (refine wx_Ign ?_;repeat' (first|with_reducible refine And.intro ?_ ?_|intro hsp))
  all_goals first|(exfalso;omega)|skip
  simp only [Nat.zero_add,List.nil_append]
  exact U3 [(9,17)] 1 2 3 4 5 9 7 8 rfl (by decide) rfl (by decide) rfl A9 rfl rfl rfl rfl rfl rfl rfl rfl rfl
theorem fw_drop6 (hy:x.w.tmod 14=4) (ea:x.a=(6:Nat)):AD2 x H (AD8 H 6 fun _=>-1) 10 1 2 3 4 5 6 9 8:=by
 refine ⟨D9 E9 b15 rfl ?_⟩
 unfold c15
 unfold hsN acE
 rw [ea]
 (refine wx_Ign ?_;repeat' (first|with_reducible refine And.intro ?_ ?_|intro hsp))
 all_goals first|(exfalso;omega)|exact U3 [(9,13)] 1 2 3 4 5 6 9 8 rfl (by decide) rfl (by decide) rfl A9 rfl rfl rfl rfl rfl rfl rfl rfl rfl
theorem fw_take6 {b:Nat} (hy:x.w.tmod 14=3) (hb:b < 8) (hne:b ≠ 6) (ea:x.a=(b:Nat)) (eb:x.b=(6:Nat)):AD2 x H (AD8 H 6 (H b)) 10 1 2 3 4 5 6 9 8:=by
 refine ⟨D9 E9 b15 rfl ?_⟩
 unfold c15
 unfold hsN acE
 rw [ea,eb]
 rcases (show b=0∨b=1∨b=2∨b=3∨b=4∨b=5∨b=6∨b=7 by omega) with rfl|rfl|rfl|rfl|rfl|rfl|rfl|rfl
 all_goals first|(exfalso;omega)|skip
 all_goals
  (refine wx_Ign ?_;repeat' (first|with_reducible refine And.intro ?_ ?_|intro hsp))
  all_goals first|(exfalso;omega)|skip
  simp only [Nat.zero_add,List.nil_append]
  exact U3 [(9,17)] 1 2 3 4 5 6 9 8 rfl (by decide) rfl (by decide) rfl A9 rfl rfl rfl rfl rfl rfl rfl rfl rfl
theorem fw_rev6 {b:Nat} (hy:x.w.tmod 14=5) (hb:b < 8) (hne:b ≠ 6) (ea:x.a=(6:Nat)) (eb:x.b=(b:Nat)):AD2 x H (AD8 H 6 (H b)) 10 1 2 3 4 5 6 9 8:=by
 refine ⟨D9 E9 b15 rfl ?_⟩
 unfold c15
 unfold hsN acE
 rw [ea,eb]
 rcases (show b=0∨b=1∨b=2∨b=3∨b=4∨b=5∨b=6∨b=7 by omega) with rfl|rfl|rfl|rfl|rfl|rfl|rfl|rfl
 all_goals first|(exfalso;omega)|skip
 all_goals
  (refine wx_Ign ?_;repeat' (first|with_reducible refine And.intro ?_ ?_|intro hsp))
  all_goals first|(exfalso;omega)|skip
  simp only [Nat.zero_add,List.nil_append]
  exact U3 [(9,17)] 1 2 3 4 5 6 9 8 rfl (by decide) rfl (by decide) rfl A9 rfl rfl rfl rfl rfl rfl rfl rfl rfl
theorem fw_drop7 (hy:x.w.tmod 14=4) (ea:x.a=(7:Nat)):AD2 x H (AD8 H 7 fun _=>-1) 10 1 2 3 4 5 6 7 9:=by
 refine ⟨D9 E9 b15 rfl ?_⟩
 unfold c15
 unfold hsN acE
 rw [ea]
 (refine wx_Ign ?_;repeat' (first|with_reducible refine And.intro ?_ ?_|intro hsp))
 all_goals first|(exfalso;omega)|exact U3 [(9,13)] 1 2 3 4 5 6 7 9 rfl (by decide) rfl (by decide) rfl A9 rfl rfl rfl rfl rfl rfl rfl rfl rfl
theorem fw_take7 {b:Nat} (hy:x.w.tmod 14=3) (hb:b < 8) (hne:b ≠ 7) (ea:x.a=(b:Nat)) (eb:x.b=(7:Nat)):AD2 x H (AD8 H 7 (H b)) 10 1 2 3 4 5 6 7 9:=by
 refine ⟨D9 E9 b15 rfl ?_⟩
 unfold c15
 unfold hsN acE
 rw [ea,eb]
 rcases (show b=0∨b=1∨b=2∨b=3∨b=4∨b=5∨b=6∨b=7 by omega) with rfl|rfl|rfl|rfl|rfl|rfl|rfl|rfl
 all_goals first|(exfalso;omega)|skip
 all_goals
  (refine wx_Ign ?_;repeat' (first|with_reducible refine And.intro ?_ ?_|intro hsp))
  all_goals first|(exfalso;omega)|skip
  simp only [Nat.zero_add,List.nil_append]
  exact U3 [(9,17)] 1 2 3 4 5 6 7 9 rfl (by decide) rfl (by decide) rfl A9 rfl rfl rfl rfl rfl rfl rfl rfl rfl
theorem fw_rev7 {b:Nat} (hy:x.w.tmod 14=5) (hb:b < 8) (hne:b ≠ 7) (ea:x.a=(7:Nat)) (eb:x.b=(b:Nat)):AD2 x H (AD8 H 7 (H b)) 10 1 2 3 4 5 6 7 9:=by
 refine ⟨D9 E9 b15 rfl ?_⟩
 unfold c15
 unfold hsN acE
 rw [ea,eb]
 rcases (show b=0∨b=1∨b=2∨b=3∨b=4∨b=5∨b=6∨b=7 by omega) with rfl|rfl|rfl|rfl|rfl|rfl|rfl|rfl
 all_goals first|(exfalso;omega)|skip
 all_goals
  (refine wx_Ign ?_;repeat' (first|with_reducible refine And.intro ?_ ?_|intro hsp))
  all_goals first|(exfalso;omega)|skip
  simp only [Nat.zero_add,List.nil_append]
  exact U3 [(9,17)] 1 2 3 4 5 6 7 9 rfl (by decide) rfl (by decide) rfl A9 rfl rfl rfl rfl rfl rfl rfl rfl rfl
end
end Go.Proofs.YtphggldkligldaaGreat.Sh
