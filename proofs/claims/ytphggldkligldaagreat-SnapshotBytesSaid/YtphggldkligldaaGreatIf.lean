/-
 followed: Map and Unmap.
-/
import Derived.Test.YtphggldkligldaaGreatIe
set_option linter.unusedSimpArgs false
set_option linter.unusedVariables false
set_option maxHeartbeats 6400000
namespace Go.Proofs.YtphggldkligldaaGreat.Sh
open Go Go.Am Go.Pol
open Go.Proofs.YtphggldkligldaaGreat.Sh renaming plx_Id → plx
open Go.Proofs.YtphggldkligldaaGreat.Sh renaming ppx_Id → ppx
theorem wx_Ifn {p q:Prop} (hq:q) (h:X5 q→p:=by (intro hQz;((repeat' ((try (conv=>whnf));first|refine sxA ?_|refine AC7 (by with_reducible assumption) ?_|refine G5 (hg) ?_|refine D7 (by rw [Ah2];omega) hset ?_|refine D7 (by rw [Ah2];omega) hset2 ?_|refine sxN ?_|refine sxH ?_|((with_reducible first|apply N9 hQz|apply O1 hQz)<;>(try intro hsp hQz))|exact hQz.out))<;>(try (conv=>whnf))))):p:=h ⟨hq⟩
section
variable {x:Ax} {H:Nat→Nat→Int} {k:Nat}
theorem fw_map0 (hy:x.w.tmod 14=0∨x.w.tmod 14=1) (ea:x.a=(0:Nat)) (hk:k < 1024) (eb:x.b=(k:Nat)) (hn:H 0 (k * 64) < 0):AD2 x H (AD8 H 0 fun p=>if p / 64=k then 0 else H 0 p) 9 1 2 3 4 5 6 7 8:=by
 refine ⟨D9 E9 b15 rfl ?_⟩
 unfold c15
 unfold hsN acE
 rw [ea,eb]
 have hg:=W9 (f:=H 0) (p:=k * 64) (by omega)
 have hz:=AQ2 (f:=H 0) (k:=k) (v:=0)
 have hall:=j5 (f:=H 0) (k:=k) (v:=0)
 rcases hy with hy|hy
 all_goals
  (refine wx_Ifn ?_;repeat' (first|with_reducible refine And.intro ?_ ?_|intro hsp))
  all_goals first|(exfalso;omega)|(exfalso;simp [hn] at hsp;done)|(exfalso;simp at hsp;omega)|skip
  (refine F6 [0,3] (fun (j:Nat)=>[(5,.int .i64 (j:Nat))]) (fun (j:Nat)=>⟨[(0,.cells [.sl 1 0 65536 65536 1,.sl 2 0 65536 65536 1,.sl 3 0 65536 65536 1,.sl 4 0 65536 65536 1,.sl 5 0 65536 65536 1,.sl 6 0 65536 65536 1,.sl 7 0 65536 65536 1,.sl 8 0 65536 65536 1]),(1,.cells (hsC (stF (H 0) k (0) j))),(2,.cells (hsC (H 1))),(3,.cells (hsC (H 2))),(4,.cells (hsC (H 3))),(5,.cells (hsC (H 4))),(6,.cells (hsC (H 5))),(7,.cells (hsC (H 6))),(8,.cells (hsC (H 7))),(9,.cells [.int .u8 x.w,.int .i64 ((0:Nat):Int),.int .i64 (k:Nat),.int .i64 x.t,.int .u8 x.v,.isl (x.l.map rlA)])],10⟩) (fun (j:Nat)=>j≤64) (fun (j:Nat)=>64 - j) (0) [] rfl (fun _=>by first|exact Nat.zero_le _|(dsimp only;omega)) ?_ (by ((try (conv=>whnf));(rw [hz]);exact F9)) ?_)
  ·exact Nat.zero_le _
  intro j hj
  by_cases hjl:j < 64
  ·have hset:=Ap1 (f:=H 0) (k:=k) (v:=0) (j:=j) rfl hjl
   (refine wx_Ifn ?_;repeat' (first|with_reducible refine And.intro ?_ ?_|intro hsp))
   all_goals first|(exfalso;omega)|exact F3 (j+1) [] (by (try dsimp only);omega) (by first|omega|(dsimp only;omega)) rfl (by exact F9)
  ·obtain rfl:j=64:=by omega
   rw [hall]
   (refine wx_Ifn ?_;repeat' (first|with_reducible refine And.intro ?_ ?_|intro hsp))
   all_goals first|(exfalso;omega)|exact U3 [] 1 2 3 4 5 6 7 8 rfl (by decide) rfl (by decide) rfl A9 rfl rfl rfl rfl rfl rfl rfl rfl rfl
theorem fw_unm0 (hy:x.w.tmod 14=2) (ea:x.a=(0:Nat)) (hk:k < 1024) (eb:x.b=(k:Nat)) (hn:0≤H 0 (k * 64)):AD2 x H (AD8 H 0 fun p=>if p / 64=k then -1 else H 0 p) 9 1 2 3 4 5 6 7 8:=by
 refine ⟨D9 E9 b15 rfl ?_⟩
 unfold c15
 unfold hsN acE
 rw [ea,eb]
 have hg:=W9 (f:=H 0) (p:=k * 64) (by omega)
 have hz:=AQ2 (f:=H 0) (k:=k) (v:=-1)
 have hall:=j5 (f:=H 0) (k:=k) (v:=-1)
 (refine wx_Ifn ?_;repeat' (first|with_reducible refine And.intro ?_ ?_|intro hsp))
 all_goals first|(exfalso;omega)|(exfalso;simp [hn] at hsp;done)|(exfalso;simp at hsp;omega)|skip
 (refine F6 [0,3] (fun (j:Nat)=>[(5,.int .i64 (j:Nat))]) (fun (j:Nat)=>⟨[(0,.cells [.sl 1 0 65536 65536 1,.sl 2 0 65536 65536 1,.sl 3 0 65536 65536 1,.sl 4 0 65536 65536 1,.sl 5 0 65536 65536 1,.sl 6 0 65536 65536 1,.sl 7 0 65536 65536 1,.sl 8 0 65536 65536 1]),(1,.cells (hsC (stF (H 0) k (-1) j))),(2,.cells (hsC (H 1))),(3,.cells (hsC (H 2))),(4,.cells (hsC (H 3))),(5,.cells (hsC (H 4))),(6,.cells (hsC (H 5))),(7,.cells (hsC (H 6))),(8,.cells (hsC (H 7))),(9,.cells [.int .u8 x.w,.int .i64 ((0:Nat):Int),.int .i64 (k:Nat),.int .i64 x.t,.int .u8 x.v,.isl (x.l.map rlA)])],10⟩) (fun (j:Nat)=>j≤64) (fun (j:Nat)=>64 - j) (0) [] rfl (fun _=>by first|exact Nat.zero_le _|(dsimp only;omega)) ?_ (by ((try (conv=>whnf));(rw [hz]);exact F9)) ?_)
 ·exact Nat.zero_le _
 intro j hj
 by_cases hjl:j < 64
 ·obtain ⟨g,hset,hset2⟩:=Ab0 (f:=H 0) (k:=k) (v:=-1) (j:=j) hjl
  (refine wx_Ifn ?_;repeat' (first|with_reducible refine And.intro ?_ ?_|intro hsp))
  all_goals first|(exfalso;omega)|exact F3 (j+1) [] (by (try dsimp only);omega) (by first|omega|(dsimp only;omega)) rfl (by exact F9)
 ·obtain rfl:j=64:=by omega
  rw [hall]
  (refine wx_Ifn ?_;repeat' (first|with_reducible refine And.intro ?_ ?_|intro hsp))
  all_goals first|(exfalso;omega)|exact U3 [] 1 2 3 4 5 6 7 8 rfl (by decide) rfl (by decide) rfl A9 rfl rfl rfl rfl rfl rfl rfl rfl rfl
theorem fw_map1 (hy:x.w.tmod 14=0∨x.w.tmod 14=1) (ea:x.a=(1:Nat)) (hk:k < 1024) (eb:x.b=(k:Nat)) (hn:H 1 (k * 64) < 0):AD2 x H (AD8 H 1 fun p=>if p / 64=k then 0 else H 1 p) 9 1 2 3 4 5 6 7 8:=by
 refine ⟨D9 E9 b15 rfl ?_⟩
 unfold c15
 unfold hsN acE
 rw [ea,eb]
 have hg:=W9 (f:=H 1) (p:=k * 64) (by omega)
 have hz:=AQ2 (f:=H 1) (k:=k) (v:=0)
 have hall:=j5 (f:=H 1) (k:=k) (v:=0)
 rcases hy with hy|hy
 all_goals
  (refine wx_Ifn ?_;repeat' (first|with_reducible refine And.intro ?_ ?_|intro hsp))
  all_goals first|(exfalso;omega)|(exfalso;simp [hn] at hsp;done)|(exfalso;simp at hsp;omega)|skip
  (refine F6 [0,3] (fun (j:Nat)=>[(5,.int .i64 (j:Nat))]) (fun (j:Nat)=>⟨[(0,.cells [.sl 1 0 65536 65536 1,.sl 2 0 65536 65536 1,.sl 3 0 65536 65536 1,.sl 4 0 65536 65536 1,.sl 5 0 65536 65536 1,.sl 6 0 65536 65536 1,.sl 7 0 65536 65536 1,.sl 8 0 65536 65536 1]),(1,.cells (hsC (H 0))),(2,.cells (hsC (stF (H 1) k (0) j))),(3,.cells (hsC (H 2))),(4,.cells (hsC (H 3))),(5,.cells (hsC (H 4))),(6,.cells (hsC (H 5))),(7,.cells (hsC (H 6))),(8,.cells (hsC (H 7))),(9,.cells [.int .u8 x.w,.int .i64 ((1:Nat):Int),.int .i64 (k:Nat),.int .i64 x.t,.int .u8 x.v,.isl (x.l.map rlA)])],10⟩) (fun (j:Nat)=>j≤64) (fun (j:Nat)=>64 - j) (0) [] rfl (fun _=>by first|exact Nat.zero_le _|(dsimp only;omega)) ?_ (by ((try (conv=>whnf));(rw [hz]);exact F9)) ?_)
  ·exact Nat.zero_le _
  intro j hj
  by_cases hjl:j < 64
  ·have hset:=Ap1 (f:=H 1) (k:=k) (v:=0) (j:=j) rfl hjl
   (refine wx_Ifn ?_;repeat' (first|with_reducible refine And.intro ?_ ?_|intro hsp))
   all_goals first|(exfalso;omega)|exact F3 (j+1) [] (by (try dsimp only);omega) (by first|omega|(dsimp only;omega)) rfl (by exact F9)
  ·obtain rfl:j=64:=by omega
   rw [hall]
   (refine wx_Ifn ?_;repeat' (first|with_reducible refine And.intro ?_ ?_|intro hsp))
   all_goals first|(exfalso;omega)|exact U3 [] 1 2 3 4 5 6 7 8 rfl (by decide) rfl (by decide) rfl A9 rfl rfl rfl rfl rfl rfl rfl rfl rfl
theorem fw_unm1 (hy:x.w.tmod 14=2) (ea:x.a=(1:Nat)) (hk:k < 1024) (eb:x.b=(k:Nat)) (hn:0≤H 1 (k * 64)):AD2 x H (AD8 H 1 fun p=>if p / 64=k then -1 else H 1 p) 9 1 2 3 4 5 6 7 8:=by
 refine ⟨D9 E9 b15 rfl ?_⟩
 unfold c15
 unfold hsN acE
 rw [ea,eb]
 have hg:=W9 (f:=H 1) (p:=k * 64) (by omega)
 have hz:=AQ2 (f:=H 1) (k:=k) (v:=-1)
 have hall:=j5 (f:=H 1) (k:=k) (v:=-1)
 (refine wx_Ifn ?_;repeat' (first|with_reducible refine And.intro ?_ ?_|intro hsp))
 all_goals first|(exfalso;omega)|(exfalso;simp [hn] at hsp;done)|(exfalso;simp at hsp;omega)|skip
 (refine F6 [0,3] (fun (j:Nat)=>[(5,.int .i64 (j:Nat))]) (fun (j:Nat)=>⟨[(0,.cells [.sl 1 0 65536 65536 1,.sl 2 0 65536 65536 1,.sl 3 0 65536 65536 1,.sl 4 0 65536 65536 1,.sl 5 0 65536 65536 1,.sl 6 0 65536 65536 1,.sl 7 0 65536 65536 1,.sl 8 0 65536 65536 1]),(1,.cells (hsC (H 0))),(2,.cells (hsC (stF (H 1) k (-1) j))),(3,.cells (hsC (H 2))),(4,.cells (hsC (H 3))),(5,.cells (hsC (H 4))),(6,.cells (hsC (H 5))),(7,.cells (hsC (H 6))),(8,.cells (hsC (H 7))),(9,.cells [.int .u8 x.w,.int .i64 ((1:Nat):Int),.int .i64 (k:Nat),.int .i64 x.t,.int .u8 x.v,.isl (x.l.map rlA)])],10⟩) (fun (j:Nat)=>j≤64) (fun (j:Nat)=>64 - j) (0) [] rfl (fun _=>by first|exact Nat.zero_le _|(dsimp only;omega)) ?_ (by ((try (conv=>whnf));(rw [hz]);exact F9)) ?_)
 ·exact Nat.zero_le _
 intro j hj
 by_cases hjl:j < 64
 ·obtain ⟨g,hset,hset2⟩:=Ab0 (f:=H 1) (k:=k) (v:=-1) (j:=j) hjl
  (refine wx_Ifn ?_;repeat' (first|with_reducible refine And.intro ?_ ?_|intro hsp))
  all_goals first|(exfalso;omega)|exact F3 (j+1) [] (by (try dsimp only);omega) (by first|omega|(dsimp only;omega)) rfl (by exact F9)
 ·obtain rfl:j=64:=by omega
  rw [hall]
  (refine wx_Ifn ?_;repeat' (first|with_reducible refine And.intro ?_ ?_|intro hsp))
  all_goals first|(exfalso;omega)|exact U3 [] 1 2 3 4 5 6 7 8 rfl (by decide) rfl (by decide) rfl A9 rfl rfl rfl rfl rfl rfl rfl rfl rfl
theorem fw_map2 (hy:x.w.tmod 14=0∨x.w.tmod 14=1) (ea:x.a=(2:Nat)) (hk:k < 1024) (eb:x.b=(k:Nat)) (hn:H 2 (k * 64) < 0):AD2 x H (AD8 H 2 fun p=>if p / 64=k then 0 else H 2 p) 9 1 2 3 4 5 6 7 8:=by
 refine ⟨D9 E9 b15 rfl ?_⟩
 unfold c15
 unfold hsN acE
 rw [ea,eb]
 have hg:=W9 (f:=H 2) (p:=k * 64) (by omega)
 have hz:=AQ2 (f:=H 2) (k:=k) (v:=0)
 have hall:=j5 (f:=H 2) (k:=k) (v:=0)
 rcases hy with hy|hy
 all_goals
  (refine wx_Ifn ?_;repeat' (first|with_reducible refine And.intro ?_ ?_|intro hsp))
  all_goals first|(exfalso;omega)|(exfalso;simp [hn] at hsp;done)|(exfalso;simp at hsp;omega)|skip
  (refine F6 [0,3] (fun (j:Nat)=>[(5,.int .i64 (j:Nat))]) (fun (j:Nat)=>⟨[(0,.cells [.sl 1 0 65536 65536 1,.sl 2 0 65536 65536 1,.sl 3 0 65536 65536 1,.sl 4 0 65536 65536 1,.sl 5 0 65536 65536 1,.sl 6 0 65536 65536 1,.sl 7 0 65536 65536 1,.sl 8 0 65536 65536 1]),(1,.cells (hsC (H 0))),(2,.cells (hsC (H 1))),(3,.cells (hsC (stF (H 2) k (0) j))),(4,.cells (hsC (H 3))),(5,.cells (hsC (H 4))),(6,.cells (hsC (H 5))),(7,.cells (hsC (H 6))),(8,.cells (hsC (H 7))),(9,.cells [.int .u8 x.w,.int .i64 ((2:Nat):Int),.int .i64 (k:Nat),.int .i64 x.t,.int .u8 x.v,.isl (x.l.map rlA)])],10⟩) (fun (j:Nat)=>j≤64) (fun (j:Nat)=>64 - j) (0) [] rfl (fun _=>by first|exact Nat.zero_le _|(dsimp only;omega)) ?_ (by ((try (conv=>whnf));(rw [hz]);exact F9)) ?_)
  ·exact Nat.zero_le _
  intro j hj
  by_cases hjl:j < 64
  ·have hset:=Ap1 (f:=H 2) (k:=k) (v:=0) (j:=j) rfl hjl
   (refine wx_Ifn ?_;repeat' (first|with_reducible refine And.intro ?_ ?_|intro hsp))
   all_goals first|(exfalso;omega)|exact F3 (j+1) [] (by (try dsimp only);omega) (by first|omega|(dsimp only;omega)) rfl (by exact F9)
  ·obtain rfl:j=64:=by omega
   rw [hall]
   (refine wx_Ifn ?_;repeat' (first|with_reducible refine And.intro ?_ ?_|intro hsp))
   all_goals first|(exfalso;omega)|exact U3 [] 1 2 3 4 5 6 7 8 rfl (by decide) rfl (by decide) rfl A9 rfl rfl rfl rfl rfl rfl rfl rfl rfl
theorem fw_unm2 (hy:x.w.tmod 14=2) (ea:x.a=(2:Nat)) (hk:k < 1024) (eb:x.b=(k:Nat)) (hn:0≤H 2 (k * 64)):AD2 x H (AD8 H 2 fun p=>if p / 64=k then -1 else H 2 p) 9 1 2 3 4 5 6 7 8:=by
 refine ⟨D9 E9 b15 rfl ?_⟩
 unfold c15
 unfold hsN acE
 rw [ea,eb]
 have hg:=W9 (f:=H 2) (p:=k * 64) (by omega)
 have hz:=AQ2 (f:=H 2) (k:=k) (v:=-1)
 have hall:=j5 (f:=H 2) (k:=k) (v:=-1)
 (refine wx_Ifn ?_;repeat' (first|with_reducible refine And.intro ?_ ?_|intro hsp))
 all_goals first|(exfalso;omega)|(exfalso;simp [hn] at hsp;done)|(exfalso;simp at hsp;omega)|skip
 (refine F6 [0,3] (fun (j:Nat)=>[(5,.int .i64 (j:Nat))]) (fun (j:Nat)=>⟨[(0,.cells [.sl 1 0 65536 65536 1,.sl 2 0 65536 65536 1,.sl 3 0 65536 65536 1,.sl 4 0 65536 65536 1,.sl 5 0 65536 65536 1,.sl 6 0 65536 65536 1,.sl 7 0 65536 65536 1,.sl 8 0 65536 65536 1]),(1,.cells (hsC (H 0))),(2,.cells (hsC (H 1))),(3,.cells (hsC (stF (H 2) k (-1) j))),(4,.cells (hsC (H 3))),(5,.cells (hsC (H 4))),(6,.cells (hsC (H 5))),(7,.cells (hsC (H 6))),(8,.cells (hsC (H 7))),(9,.cells [.int .u8 x.w,.int .i64 ((2:Nat):Int),.int .i64 (k:Nat),.int .i64 x.t,.int .u8 x.v,.isl (x.l.map rlA)])],10⟩) (fun (j:Nat)=>j≤64) (fun (j:Nat)=>64 - j) (0) [] rfl (fun _=>by first|exact Nat.zero_le _|(dsimp only;omega)) ?_ (by ((try (conv=>whnf));(rw [hz]);exact F9)) ?_)
 ·exact Nat.zero_le _
 intro j hj
 by_cases hjl:j < 64
 ·obtain ⟨g,hset,hset2⟩:=Ab0 (f:=H 2) (k:=k) (v:=-1) (j:=j) hjl
  (refine wx_Ifn ?_;repeat' (first|with_reducible refine And.intro ?_ ?_|intro hsp))
  all_goals first|(exfalso;omega)|exact F3 (j+1) [] (by (try dsimp only);omega) (by first|omega|(dsimp only;omega)) rfl (by exact F9)
 ·obtain rfl:j=64:=by omega
  rw [hall]
  (refine wx_Ifn ?_;repeat' (first|with_reducible refine And.intro ?_ ?_|intro hsp))
  all_goals first|(exfalso;omega)|exact U3 [] 1 2 3 4 5 6 7 8 rfl (by decide) rfl (by decide) rfl A9 rfl rfl rfl rfl rfl rfl rfl rfl rfl
theorem fw_map3 (hy:x.w.tmod 14=0∨x.w.tmod 14=1) (ea:x.a=(3:Nat)) (hk:k < 1024) (eb:x.b=(k:Nat)) (hn:H 3 (k * 64) < 0):AD2 x H (AD8 H 3 fun p=>if p / 64=k then 0 else H 3 p) 9 1 2 3 4 5 6 7 8:=by
 refine ⟨D9 E9 b15 rfl ?_⟩
 unfold c15
 unfold hsN acE
 rw [ea,eb]
 have hg:=W9 (f:=H 3) (p:=k * 64) (by omega)
 have hz:=AQ2 (f:=H 3) (k:=k) (v:=0)
 have hall:=j5 (f:=H 3) (k:=k) (v:=0)
 rcases hy with hy|hy
 all_goals
  (refine wx_Ifn ?_;repeat' (first|with_reducible refine And.intro ?_ ?_|intro hsp))
  all_goals first|(exfalso;omega)|(exfalso;simp [hn] at hsp;done)|(exfalso;simp at hsp;omega)|skip
  (refine F6 [0,3] (fun (j:Nat)=>[(5,.int .i64 (j:Nat))]) (fun (j:Nat)=>⟨[(0,.cells [.sl 1 0 65536 65536 1,.sl 2 0 65536 65536 1,.sl 3 0 65536 65536 1,.sl 4 0 65536 65536 1,.sl 5 0 65536 65536 1,.sl 6 0 65536 65536 1,.sl 7 0 65536 65536 1,.sl 8 0 65536 65536 1]),(1,.cells (hsC (H 0))),(2,.cells (hsC (H 1))),(3,.cells (hsC (H 2))),(4,.cells (hsC (stF (H 3) k (0) j))),(5,.cells (hsC (H 4))),(6,.cells (hsC (H 5))),(7,.cells (hsC (H 6))),(8,.cells (hsC (H 7))),(9,.cells [.int .u8 x.w,.int .i64 ((3:Nat):Int),.int .i64 (k:Nat),.int .i64 x.t,.int .u8 x.v,.isl (x.l.map rlA)])],10⟩) (fun (j:Nat)=>j≤64) (fun (j:Nat)=>64 - j) (0) [] rfl (fun _=>by first|exact Nat.zero_le _|(dsimp only;omega)) ?_ (by ((try (conv=>whnf));(rw [hz]);exact F9)) ?_)
  ·exact Nat.zero_le _
  intro j hj
  by_cases hjl:j < 64
  ·have hset:=Ap1 (f:=H 3) (k:=k) (v:=0) (j:=j) rfl hjl
   (refine wx_Ifn ?_;repeat' (first|with_reducible refine And.intro ?_ ?_|intro hsp))
   all_goals first|(exfalso;omega)|exact F3 (j+1) [] (by (try dsimp only);omega) (by first|omega|(dsimp only;omega)) rfl (by exact F9)
  ·obtain rfl:j=64:=by omega
   rw [hall]
   (refine wx_Ifn ?_;repeat' (first|with_reducible refine And.intro ?_ ?_|intro hsp))
   all_goals first|(exfalso;omega)|exact U3 [] 1 2 3 4 5 6 7 8 rfl (by decide) rfl (by decide) rfl A9 rfl rfl rfl rfl rfl rfl rfl rfl rfl
theorem fw_unm3 (hy:x.w.tmod 14=2) (ea:x.a=(3:Nat)) (hk:k < 1024) (eb:x.b=(k:Nat)) (hn:0≤H 3 (k * 64)):AD2 x H (AD8 H 3 fun p=>if p / 64=k then -1 else H 3 p) 9 1 2 3 4 5 6 7 8:=by
 refine ⟨D9 E9 b15 rfl ?_⟩
 unfold c15
 unfold hsN acE
 rw [ea,eb]
 have hg:=W9 (f:=H 3) (p:=k * 64) (by omega)
 have hz:=AQ2 (f:=H 3) (k:=k) (v:=-1)
 have hall:=j5 (f:=H 3) (k:=k) (v:=-1)
 (refine wx_Ifn ?_;repeat' (first|with_reducible refine And.intro ?_ ?_|intro hsp))
 all_goals first|(exfalso;omega)|(exfalso;simp [hn] at hsp;done)|(exfalso;simp at hsp;omega)|skip
 (refine F6 [0,3] (fun (j:Nat)=>[(5,.int .i64 (j:Nat))]) (fun (j:Nat)=>⟨[(0,.cells [.sl 1 0 65536 65536 1,.sl 2 0 65536 65536 1,.sl 3 0 65536 65536 1,.sl 4 0 65536 65536 1,.sl 5 0 65536 65536 1,.sl 6 0 65536 65536 1,.sl 7 0 65536 65536 1,.sl 8 0 65536 65536 1]),(1,.cells (hsC (H 0))),(2,.cells (hsC (H 1))),(3,.cells (hsC (H 2))),(4,.cells (hsC (stF (H 3) k (-1) j))),(5,.cells (hsC (H 4))),(6,.cells (hsC (H 5))),(7,.cells (hsC (H 6))),(8,.cells (hsC (H 7))),(9,.cells [.int .u8 x.w,.int .i64 ((3:Nat):Int),.int .i64 (k:Nat),.int .i64 x.t,.int .u8 x.v,.isl (x.l.map rlA)])],10⟩) (fun (j:Nat)=>j≤64) (fun (j:Nat)=>64 - j) (0) [] rfl (fun _=>by first|exact Nat.zero_le _|(dsimp only;omega)) ?_ (by ((try (conv=>whnf));(rw [hz]);exact F9)) ?_)
 ·exact Nat.zero_le _
 intro j hj
 by_cases hjl:j < 64
 ·obtain ⟨g,hset,hset2⟩:=Ab0 (f:=H 3) (k:=k) (v:=-1) (j:=j) hjl
  (refine wx_Ifn ?_;repeat' (first|with_reducible refine And.intro ?_ ?_|intro hsp))
  all_goals first|(exfalso;omega)|exact F3 (j+1) [] (by (try dsimp only);omega) (by first|omega|(dsimp only;omega)) rfl (by exact F9)
 ·obtain rfl:j=64:=by omega
  rw [hall]
  (refine wx_Ifn ?_;repeat' (first|with_reducible refine And.intro ?_ ?_|intro hsp))
  all_goals first|(exfalso;omega)|exact U3 [] 1 2 3 4 5 6 7 8 rfl (by decide) rfl (by decide) rfl A9 rfl rfl rfl rfl rfl rfl rfl rfl rfl
theorem fw_map4 (hy:x.w.tmod 14=0∨x.w.tmod 14=1) (ea:x.a=(4:Nat)) (hk:k < 1024) (eb:x.b=(k:Nat)) (hn:H 4 (k * 64) < 0):AD2 x H (AD8 H 4 fun p=>if p / 64=k then 0 else H 4 p) 9 1 2 3 4 5 6 7 8:=by
 refine ⟨D9 E9 b15 rfl ?_⟩
 unfold c15
 unfold hsN acE
 rw [ea,eb]
 have hg:=W9 (f:=H 4) (p:=k * 64) (by omega)
 have hz:=AQ2 (f:=H 4) (k:=k) (v:=0)
 have hall:=j5 (f:=H 4) (k:=k) (v:=0)
 rcases hy with hy|hy
 all_goals
  (refine wx_Ifn ?_;repeat' (first|with_reducible refine And.intro ?_ ?_|intro hsp))
  all_goals first|(exfalso;omega)|(exfalso;simp [hn] at hsp;done)|(exfalso;simp at hsp;omega)|skip
  (refine F6 [0,3] (fun (j:Nat)=>[(5,.int .i64 (j:Nat))]) (fun (j:Nat)=>⟨[(0,.cells [.sl 1 0 65536 65536 1,.sl 2 0 65536 65536 1,.sl 3 0 65536 65536 1,.sl 4 0 65536 65536 1,.sl 5 0 65536 65536 1,.sl 6 0 65536 65536 1,.sl 7 0 65536 65536 1,.sl 8 0 65536 65536 1]),(1,.cells (hsC (H 0))),(2,.cells (hsC (H 1))),(3,.cells (hsC (H 2))),(4,.cells (hsC (H 3))),(5,.cells (hsC (stF (H 4) k (0) j))),(6,.cells (hsC (H 5))),(7,.cells (hsC (H 6))),(8,.cells (hsC (H 7))),(9,.cells [.int .u8 x.w,.int .i64 ((4:Nat):Int),.int .i64 (k:Nat),.int .i64 x.t,.int .u8 x.v,.isl (x.l.map rlA)])],10⟩) (fun (j:Nat)=>j≤64) (fun (j:Nat)=>64 - j) (0) [] rfl (fun _=>by first|exact Nat.zero_le _|(dsimp only;omega)) ?_ (by ((try (conv=>whnf));(rw [hz]);exact F9)) ?_)
  ·exact Nat.zero_le _
  intro j hj
  by_cases hjl:j < 64
  ·have hset:=Ap1 (f:=H 4) (k:=k) (v:=0) (j:=j) rfl hjl
   (refine wx_Ifn ?_;repeat' (first|with_reducible refine And.intro ?_ ?_|intro hsp))
   all_goals first|(exfalso;omega)|exact F3 (j+1) [] (by (try dsimp only);omega) (by first|omega|(dsimp only;omega)) rfl (by exact F9)
  ·obtain rfl:j=64:=by omega
   rw [hall]
   (refine wx_Ifn ?_;repeat' (first|with_reducible refine And.intro ?_ ?_|intro hsp))
   all_goals first|(exfalso;omega)|exact U3 [] 1 2 3 4 5 6 7 8 rfl (by decide) rfl (by decide) rfl A9 rfl rfl rfl rfl rfl rfl rfl rfl rfl
theorem fw_unm4 (hy:x.w.tmod 14=2) (ea:x.a=(4:Nat)) (hk:k < 1024) (eb:x.b=(k:Nat)) (hn:0≤H 4 (k * 64)):AD2 x H (AD8 H 4 fun p=>if p / 64=k then -1 else H 4 p) 9 1 2 3 4 5 6 7 8:=by
 refine ⟨D9 E9 b15 rfl ?_⟩
 unfold c15
 unfold hsN acE
 rw [ea,eb]
 have hg:=W9 (f:=H 4) (p:=k * 64) (by omega)
 have hz:=AQ2 (f:=H 4) (k:=k) (v:=-1)
 have hall:=j5 (f:=H 4) (k:=k) (v:=-1)
 (refine wx_Ifn ?_;repeat' (first|with_reducible refine And.intro ?_ ?_|intro hsp))
 all_goals first|(exfalso;omega)|(exfalso;simp [hn] at hsp;done)|(exfalso;simp at hsp;omega)|skip
 (refine F6 [0,3] (fun (j:Nat)=>[(5,.int .i64 (j:Nat))]) (fun (j:Nat)=>⟨[(0,.cells [.sl 1 0 65536 65536 1,.sl 2 0 65536 65536 1,.sl 3 0 65536 65536 1,.sl 4 0 65536 65536 1,.sl 5 0 65536 65536 1,.sl 6 0 65536 65536 1,.sl 7 0 65536 65536 1,.sl 8 0 65536 65536 1]),(1,.cells (hsC (H 0))),(2,.cells (hsC (H 1))),(3,.cells (hsC (H 2))),(4,.cells (hsC (H 3))),(5,.cells (hsC (stF (H 4) k (-1) j))),(6,.cells (hsC (H 5))),(7,.cells (hsC (H 6))),(8,.cells (hsC (H 7))),(9,.cells [.int .u8 x.w,.int .i64 ((4:Nat):Int),.int .i64 (k:Nat),.int .i64 x.t,.int .u8 x.v,.isl (x.l.map rlA)])],10⟩) (fun (j:Nat)=>j≤64) (fun (j:Nat)=>64 - j) (0) [] rfl (fun _=>by first|exact Nat.zero_le _|(dsimp only;omega)) ?_ (by ((try (conv=>whnf));(rw [hz]);exact F9)) ?_)
 ·exact Nat.zero_le _
 intro j hj
 by_cases hjl:j < 64
 ·obtain ⟨g,hset,hset2⟩:=Ab0 (f:=H 4) (k:=k) (v:=-1) (j:=j) hjl
  (refine wx_Ifn ?_;repeat' (first|with_reducible refine And.intro ?_ ?_|intro hsp))
  all_goals first|(exfalso;omega)|exact F3 (j+1) [] (by (try dsimp only);omega) (by first|omega|(dsimp only;omega)) rfl (by exact F9)
 ·obtain rfl:j=64:=by omega
  rw [hall]
  (refine wx_Ifn ?_;repeat' (first|with_reducible refine And.intro ?_ ?_|intro hsp))
  all_goals first|(exfalso;omega)|exact U3 [] 1 2 3 4 5 6 7 8 rfl (by decide) rfl (by decide) rfl A9 rfl rfl rfl rfl rfl rfl rfl rfl rfl
theorem fw_map5 (hy:x.w.tmod 14=0∨x.w.tmod 14=1) (ea:x.a=(5:Nat)) (hk:k < 1024) (eb:x.b=(k:Nat)) (hn:H 5 (k * 64) < 0):AD2 x H (AD8 H 5 fun p=>if p / 64=k then 0 else H 5 p) 9 1 2 3 4 5 6 7 8:=by
 refine ⟨D9 E9 b15 rfl ?_⟩
 unfold c15
 unfold hsN acE
 rw [ea,eb]
 have hg:=W9 (f:=H 5) (p:=k * 64) (by omega)
 have hz:=AQ2 (f:=H 5) (k:=k) (v:=0)
 have hall:=j5 (f:=H 5) (k:=k) (v:=0)
 rcases hy with hy|hy
 all_goals
  (refine wx_Ifn ?_;repeat' (first|with_reducible refine And.intro ?_ ?_|intro hsp))
  all_goals first|(exfalso;omega)|(exfalso;simp [hn] at hsp;done)|(exfalso;simp at hsp;omega)|skip
  (refine F6 [0,3] (fun (j:Nat)=>[(5,.int .i64 (j:Nat))]) (fun (j:Nat)=>⟨[(0,.cells [.sl 1 0 65536 65536 1,.sl 2 0 65536 65536 1,.sl 3 0 65536 65536 1,.sl 4 0 65536 65536 1,.sl 5 0 65536 65536 1,.sl 6 0 65536 65536 1,.sl 7 0 65536 65536 1,.sl 8 0 65536 65536 1]),(1,.cells (hsC (H 0))),(2,.cells (hsC (H 1))),(3,.cells (hsC (H 2))),(4,.cells (hsC (H 3))),(5,.cells (hsC (H 4))),(6,.cells (hsC (stF (H 5) k (0) j))),(7,.cells (hsC (H 6))),(8,.cells (hsC (H 7))),(9,.cells [.int .u8 x.w,.int .i64 ((5:Nat):Int),.int .i64 (k:Nat),.int .i64 x.t,.int .u8 x.v,.isl (x.l.map rlA)])],10⟩) (fun (j:Nat)=>j≤64) (fun (j:Nat)=>64 - j) (0) [] rfl (fun _=>by first|exact Nat.zero_le _|(dsimp only;omega)) ?_ (by ((try (conv=>whnf));(rw [hz]);exact F9)) ?_)
  ·exact Nat.zero_le _
  intro j hj
  by_cases hjl:j < 64
  ·have hset:=Ap1 (f:=H 5) (k:=k) (v:=0) (j:=j) rfl hjl
   (refine wx_Ifn ?_;repeat' (first|with_reducible refine And.intro ?_ ?_|intro hsp))
   all_goals first|(exfalso;omega)|exact F3 (j+1) [] (by (try dsimp only);omega) (by first|omega|(dsimp only;omega)) rfl (by exact F9)
  ·obtain rfl:j=64:=by omega
   rw [hall]
   (refine wx_Ifn ?_;repeat' (first|with_reducible refine And.intro ?_ ?_|intro hsp))
   all_goals first|(exfalso;omega)|exact U3 [] 1 2 3 4 5 6 7 8 rfl (by decide) rfl (by decide) rfl A9 rfl rfl rfl rfl rfl rfl rfl rfl rfl
theorem fw_unm5 (hy:x.w.tmod 14=2) (ea:x.a=(5:Nat)) (hk:k < 1024) (eb:x.b=(k:Nat)) (hn:0≤H 5 (k * 64)):AD2 x H (AD8 H 5 fun p=>if p / 64=k then -1 else H 5 p) 9 1 2 3 4 5 6 7 8:=by
 refine ⟨D9 E9 b15 rfl ?_⟩
 unfold c15
 unfold hsN acE
 rw [ea,eb]
 have hg:=W9 (f:=H 5) (p:=k * 64) (by omega)
 have hz:=AQ2 (f:=H 5) (k:=k) (v:=-1)
 have hall:=j5 (f:=H 5) (k:=k) (v:=-1)
 (refine wx_Ifn ?_;repeat' (first|with_reducible refine And.intro ?_ ?_|intro hsp))
 all_goals first|(exfalso;omega)|(exfalso;simp [hn] at hsp;done)|(exfalso;simp at hsp;omega)|skip
 (refine F6 [0,3] (fun (j:Nat)=>[(5,.int .i64 (j:Nat))]) (fun (j:Nat)=>⟨[(0,.cells [.sl 1 0 65536 65536 1,.sl 2 0 65536 65536 1,.sl 3 0 65536 65536 1,.sl 4 0 65536 65536 1,.sl 5 0 65536 65536 1,.sl 6 0 65536 65536 1,.sl 7 0 65536 65536 1,.sl 8 0 65536 65536 1]),(1,.cells (hsC (H 0))),(2,.cells (hsC (H 1))),(3,.cells (hsC (H 2))),(4,.cells (hsC (H 3))),(5,.cells (hsC (H 4))),(6,.cells (hsC (stF (H 5) k (-1) j))),(7,.cells (hsC (H 6))),(8,.cells (hsC (H 7))),(9,.cells [.int .u8 x.w,.int .i64 ((5:Nat):Int),.int .i64 (k:Nat),.int .i64 x.t,.int .u8 x.v,.isl (x.l.map rlA)])],10⟩) (fun (j:Nat)=>j≤64) (fun (j:Nat)=>64 - j) (0) [] rfl (fun _=>by first|exact Nat.zero_le _|(dsimp only;omega)) ?_ (by ((try (conv=>whnf));(rw [hz]);exact F9)) ?_)
 ·exact Nat.zero_le _
 intro j hj
 by_cases hjl:j < 64
 ·obtain ⟨g,hset,hset2⟩:=Ab0 (f:=H 5) (k:=k) (v:=-1) (j:=j) hjl
  (refine wx_Ifn ?_;repeat' (first|with_reducible refine And.intro ?_ ?_|intro hsp))
  all_goals first|(exfalso;omega)|exact F3 (j+1) [] (by (try dsimp only);omega) (by first|omega|(dsimp only;omega)) rfl (by exact F9)
 ·obtain rfl:j=64:=by omega
  rw [hall]
  (refine wx_Ifn ?_;repeat' (first|with_reducible refine And.intro ?_ ?_|intro hsp))
  all_goals first|(exfalso;omega)|exact U3 [] 1 2 3 4 5 6 7 8 rfl (by decide) rfl (by decide) rfl A9 rfl rfl rfl rfl rfl rfl rfl rfl rfl
theorem fw_map6 (hy:x.w.tmod 14=0∨x.w.tmod 14=1) (ea:x.a=(6:Nat)) (hk:k < 1024) (eb:x.b=(k:Nat)) (hn:H 6 (k * 64) < 0):AD2 x H (AD8 H 6 fun p=>if p / 64=k then 0 else H 6 p) 9 1 2 3 4 5 6 7 8:=by
 refine ⟨D9 E9 b15 rfl ?_⟩
 unfold c15
 unfold hsN acE
 rw [ea,eb]
 have hg:=W9 (f:=H 6) (p:=k * 64) (by omega)
 have hz:=AQ2 (f:=H 6) (k:=k) (v:=0)
 have hall:=j5 (f:=H 6) (k:=k) (v:=0)
 rcases hy with hy|hy
 all_goals
  (refine wx_Ifn ?_;repeat' (first|with_reducible refine And.intro ?_ ?_|intro hsp))
  all_goals first|(exfalso;omega)|(exfalso;simp [hn] at hsp;done)|(exfalso;simp at hsp;omega)|skip
  (refine F6 [0,3] (fun (j:Nat)=>[(5,.int .i64 (j:Nat))]) (fun (j:Nat)=>⟨[(0,.cells [.sl 1 0 65536 65536 1,.sl 2 0 65536 65536 1,.sl 3 0 65536 65536 1,.sl 4 0 65536 65536 1,.sl 5 0 65536 65536 1,.sl 6 0 65536 65536 1,.sl 7 0 65536 65536 1,.sl 8 0 65536 65536 1]),(1,.cells (hsC (H 0))),(2,.cells (hsC (H 1))),(3,.cells (hsC (H 2))),(4,.cells (hsC (H 3))),(5,.cells (hsC (H 4))),(6,.cells (hsC (H 5))),(7,.cells (hsC (stF (H 6) k (0) j))),(8,.cells (hsC (H 7))),(9,.cells [.int .u8 x.w,.int .i64 ((6:Nat):Int),.int .i64 (k:Nat),.int .i64 x.t,.int .u8 x.v,.isl (x.l.map rlA)])],10⟩) (fun (j:Nat)=>j≤64) (fun (j:Nat)=>64 - j) (0) [] rfl (fun _=>by first|exact Nat.zero_le _|(dsimp only;omega)) ?_ (by ((try (conv=>whnf));(rw [hz]);exact F9)) ?_)
  ·exact Nat.zero_le _
  intro j hj
  by_cases hjl:j < 64
  ·have hset:=Ap1 (f:=H 6) (k:=k) (v:=0) (j:=j) rfl hjl
   (refine wx_Ifn ?_;repeat' (first|with_reducible refine And.intro ?_ ?_|intro hsp))
   all_goals first|(exfalso;omega)|exact F3 (j+1) [] (by (try dsimp only);omega) (by first|omega|(dsimp only;omega)) rfl (by exact F9)
  ·obtain rfl:j=64:=by omega
   rw [hall]
   (refine wx_Ifn ?_;repeat' (first|with_reducible refine And.intro ?_ ?_|intro hsp))
   all_goals first|(exfalso;omega)|exact U3 [] 1 2 3 4 5 6 7 8 rfl (by decide) rfl (by decide) rfl A9 rfl rfl rfl rfl rfl rfl rfl rfl rfl
theorem fw_unm6 (hy:x.w.tmod 14=2) (ea:x.a=(6:Nat)) (hk:k < 1024) (eb:x.b=(k:Nat)) (hn:0≤H 6 (k * 64)):AD2 x H (AD8 H 6 fun p=>if p / 64=k then -1 else H 6 p) 9 1 2 3 4 5 6 7 8:=by
 refine ⟨D9 E9 b15 rfl ?_⟩
 unfold c15
 unfold hsN acE
 rw [ea,eb]
 have hg:=W9 (f:=H 6) (p:=k * 64) (by omega)
 have hz:=AQ2 (f:=H 6) (k:=k) (v:=-1)
 have hall:=j5 (f:=H 6) (k:=k) (v:=-1)
 (refine wx_Ifn ?_;repeat' (first|with_reducible refine And.intro ?_ ?_|intro hsp))
 all_goals first|(exfalso;omega)|(exfalso;simp [hn] at hsp;done)|(exfalso;simp at hsp;omega)|skip
 (refine F6 [0,3] (fun (j:Nat)=>[(5,.int .i64 (j:Nat))]) (fun (j:Nat)=>⟨[(0,.cells [.sl 1 0 65536 65536 1,.sl 2 0 65536 65536 1,.sl 3 0 65536 65536 1,.sl 4 0 65536 65536 1,.sl 5 0 65536 65536 1,.sl 6 0 65536 65536 1,.sl 7 0 65536 65536 1,.sl 8 0 65536 65536 1]),(1,.cells (hsC (H 0))),(2,.cells (hsC (H 1))),(3,.cells (hsC (H 2))),(4,.cells (hsC (H 3))),(5,.cells (hsC (H 4))),(6,.cells (hsC (H 5))),(7,.cells (hsC (stF (H 6) k (-1) j))),(8,.cells (hsC (H 7))),(9,.cells [.int .u8 x.w,.int .i64 ((6:Nat):Int),.int .i64 (k:Nat),.int .i64 x.t,.int .u8 x.v,.isl (x.l.map rlA)])],10⟩) (fun (j:Nat)=>j≤64) (fun (j:Nat)=>64 - j) (0) [] rfl (fun _=>by first|exact Nat.zero_le _|(dsimp only;omega)) ?_ (by ((try (conv=>whnf));(rw [hz]);exact F9)) ?_)
 ·exact Nat.zero_le _
 intro j hj
 by_cases hjl:j < 64
 ·obtain ⟨g,hset,hset2⟩:=Ab0 (f:=H 6) (k:=k) (v:=-1) (j:=j) hjl
  (refine wx_Ifn ?_;repeat' (first|with_reducible refine And.intro ?_ ?_|intro hsp))
  all_goals first|(exfalso;omega)|exact F3 (j+1) [] (by (try dsimp only);omega) (by first|omega|(dsimp only;omega)) rfl (by exact F9)
 ·obtain rfl:j=64:=by omega
  rw [hall]
  (refine wx_Ifn ?_;repeat' (first|with_reducible refine And.intro ?_ ?_|intro hsp))
  all_goals first|(exfalso;omega)|exact U3 [] 1 2 3 4 5 6 7 8 rfl (by decide) rfl (by decide) rfl A9 rfl rfl rfl rfl rfl rfl rfl rfl rfl
theorem fw_map7 (hy:x.w.tmod 14=0∨x.w.tmod 14=1) (ea:x.a=(7:Nat)) (hk:k < 1024) (eb:x.b=(k:Nat)) (hn:H 7 (k * 64) < 0):AD2 x H (AD8 H 7 fun p=>if p / 64=k then 0 else H 7 p) 9 1 2 3 4 5 6 7 8:=by
 refine ⟨D9 E9 b15 rfl ?_⟩
 unfold c15
 unfold hsN acE
 rw [ea,eb]
 have hg:=W9 (f:=H 7) (p:=k * 64) (by omega)
 have hz:=AQ2 (f:=H 7) (k:=k) (v:=0)
 have hall:=j5 (f:=H 7) (k:=k) (v:=0)
 rcases hy with hy|hy
 all_goals
  (refine wx_Ifn ?_;repeat' (first|with_reducible refine And.intro ?_ ?_|intro hsp))
  all_goals first|(exfalso;omega)|(exfalso;simp [hn] at hsp;done)|(exfalso;simp at hsp;omega)|skip
  (refine F6 [0,3] (fun (j:Nat)=>[(5,.int .i64 (j:Nat))]) (fun (j:Nat)=>⟨[(0,.cells [.sl 1 0 65536 65536 1,.sl 2 0 65536 65536 1,.sl 3 0 65536 65536 1,.sl 4 0 65536 65536 1,.sl 5 0 65536 65536 1,.sl 6 0 65536 65536 1,.sl 7 0 65536 65536 1,.sl 8 0 65536 65536 1]),(1,.cells (hsC (H 0))),(2,.cells (hsC (H 1))),(3,.cells (hsC (H 2))),(4,.cells (hsC (H 3))),(5,.cells (hsC (H 4))),(6,.cells (hsC (H 5))),(7,.cells (hsC (H 6))),(8,.cells (hsC (stF (H 7) k (0) j))),(9,.cells [.int .u8 x.w,.int .i64 ((7:Nat):Int),.int .i64 (k:Nat),.int .i64 x.t,.int .u8 x.v,.isl (x.l.map rlA)])],10⟩) (fun (j:Nat)=>j≤64) (fun (j:Nat)=>64 - j) (0) [] rfl (fun _=>by first|exact Nat.zero_le _|(dsimp only;omega)) ?_ (by ((try (conv=>whnf));(rw [hz]);exact F9)) ?_)
  ·exact Nat.zero_le _
  intro j hj
  by_cases hjl:j < 64
  ·have hset:=Ap1 (f:=H 7) (k:=k) (v:=0) (j:=j) rfl hjl
   (refine wx_Ifn ?_;repeat' (first|with_reducible refine And.intro ?_ ?_|intro hsp))
   all_goals first|(exfalso;omega)|exact F3 (j+1) [] (by (try dsimp only);omega) (by first|omega|(dsimp only;omega)) rfl (by exact F9)
  ·obtain rfl:j=64:=by omega
   rw [hall]
   (refine wx_Ifn ?_;repeat' (first|with_reducible refine And.intro ?_ ?_|intro hsp))
   all_goals first|(exfalso;omega)|exact U3 [] 1 2 3 4 5 6 7 8 rfl (by decide) rfl (by decide) rfl A9 rfl rfl rfl rfl rfl rfl rfl rfl rfl
theorem fw_unm7 (hy:x.w.tmod 14=2) (ea:x.a=(7:Nat)) (hk:k < 1024) (eb:x.b=(k:Nat)) (hn:0≤H 7 (k * 64)):AD2 x H (AD8 H 7 fun p=>if p / 64=k then -1 else H 7 p) 9 1 2 3 4 5 6 7 8:=by
 refine ⟨D9 E9 b15 rfl ?_⟩
 unfold c15
 unfold hsN acE
 rw [ea,eb]
 have hg:=W9 (f:=H 7) (p:=k * 64) (by omega)
 have hz:=AQ2 (f:=H 7) (k:=k) (v:=-1)
 have hall:=j5 (f:=H 7) (k:=k) (v:=-1)
 (refine wx_Ifn ?_;repeat' (first|with_reducible refine And.intro ?_ ?_|intro hsp))
 all_goals first|(exfalso;omega)|(exfalso;simp [hn] at hsp;done)|(exfalso;simp at hsp;omega)|skip
 (refine F6 [0,3] (fun (j:Nat)=>[(5,.int .i64 (j:Nat))]) (fun (j:Nat)=>⟨[(0,.cells [.sl 1 0 65536 65536 1,.sl 2 0 65536 65536 1,.sl 3 0 65536 65536 1,.sl 4 0 65536 65536 1,.sl 5 0 65536 65536 1,.sl 6 0 65536 65536 1,.sl 7 0 65536 65536 1,.sl 8 0 65536 65536 1]),(1,.cells (hsC (H 0))),(2,.cells (hsC (H 1))),(3,.cells (hsC (H 2))),(4,.cells (hsC (H 3))),(5,.cells (hsC (H 4))),(6,.cells (hsC (H 5))),(7,.cells (hsC (H 6))),(8,.cells (hsC (stF (H 7) k (-1) j))),(9,.cells [.int .u8 x.w,.int .i64 ((7:Nat):Int),.int .i64 (k:Nat),.int .i64 x.t,.int .u8 x.v,.isl (x.l.map rlA)])],10⟩) (fun (j:Nat)=>j≤64) (fun (j:Nat)=>64 - j) (0) [] rfl (fun _=>by first|exact Nat.zero_le _|(dsimp only;omega)) ?_ (by ((try (conv=>whnf));(rw [hz]);exact F9)) ?_)
 ·exact Nat.zero_le _
 intro j hj
 by_cases hjl:j < 64
 ·obtain ⟨g,hset,hset2⟩:=Ab0 (f:=H 7) (k:=k) (v:=-1) (j:=j) hjl
  (refine wx_Ifn ?_;repeat' (first|with_reducible refine And.intro ?_ ?_|intro hsp))
  all_goals first|(exfalso;omega)|exact F3 (j+1) [] (by (try dsimp only);omega) (by first|omega|(dsimp only;omega)) rfl (by exact F9)
 ·obtain rfl:j=64:=by omega
  rw [hall]
  (refine wx_Ifn ?_;repeat' (first|with_reducible refine And.intro ?_ ?_|intro hsp))
  all_goals first|(exfalso;omega)|exact U3 [] 1 2 3 4 5 6 7 8 rfl (by decide) rfl (by decide) rfl A9 rfl rfl rfl rfl rfl rfl rfl rfl rfl
end
end Go.Proofs.YtphggldkligldaaGreat.Sh
