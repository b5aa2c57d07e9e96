/-
 A book takes a frame.
-/
import Derived.Test.YtphggldkligldaaGreatSnH
set_option linter.unusedSimpArgs false
set_option linter.unusedVariables false
namespace Go.Pol
open Go.Am
theorem kind_at {s:Sy} {f:Nat} (hf:f < 1024) (hm:s.M f=false):s.kind (f:Nat)=[.int .i64 (s.K f),.bool false,.int .i64 0]:=by
 unfold Sy.kind
 rw [if_neg (by omega),Int.toNat_natCast,hm]
theorem chg_err {s:Sy} {f:Nat} (hf:f < 1024) (hk:s.K f=1) (hm:s.M f=false):(s.chg (f:Nat) 1 1 2 2).1=0→(s.chg (f:Nat) 1 1 2 2).2.K f=2:=fun h=>by
 rw [chg_one hf hk hm] at h ⊢
 split at h
 ·exact absurd h (show ¬ (60:Int)=0 by decide)
 ·rename_i e;rw [if_neg e];show (if f=f then (2:Int) else s.K f)=2;rw [if_pos rfl]
end Go.Pol
namespace Go.Proofs.YtphggldkligldaaGreat.Sh
open Go Go.Am Go.Pol
theorem wx_Jd {p q:Prop} (hq:q) (h:HidP q→p:=by (intro hQz;((repeat' ((try (conv=>whnf));first|(with_reducible first|refine run_cons ?_|refine runq_cons ?_|refine code_seq ?_|refine code_reg ?_|refine code_cond ?_|refine run_nil ?_|refine runq_nil ?_|refine rund_op rfl ?_|refine rund_nil ?_|refine code_block ?_|refine code_skip ?_|refine code_exit ?_|refine code_ret ?_|refine code_range ?_|refine rund_fast (by decide +kernel) ?_|refine rund_slow (by decide +kernel) ?_|refine br_tt ?_|refine br_ff ?_|refine br_n ?_|refine br_and ?_|refine br_or ?_|refine br_t (by assumption) ?_|refine br_f (by assumption) ?_|refine eq_i64 (by omega) ?_|refine el_tn ?_)|((with_reducible refine br_dt ?_ ?_);focus omega)|((with_reducible refine br_df ?_ ?_);focus omega)|((with_reducible apply br_dq hQz)<;>(try intro hsp hQz))|((with_reducible refine ck_x ?_ ?_);focus (first|omega|rfl|assumption|decide|(simp only [List.length_map,List.length_cons,List.length_nil];omega)))|(with_reducible first|refine eq_tn ?_|refine eq_tn1 ?_|refine eq_tn2 ?_|refine eq_m1 ?_|refine eq_m2 ?_|refine eq_zm ?_|refine eq_z ?_|refine len_map ?_|refine len_sl ?_|refine len_nils ?_|refine len_own' ?_|refine len_isl ?_|refine eq_u8 (by omega) ?_|refine eq_u16 (by omega) ?_)|refine dropK_of (by rw [bc_len];omega) List.drop_zero (takeK_of (by rw [bc_len];omega) bc_take ?_)|refine nthK_of hxk ?_|(with_reducible first|refine eq_rfl ?_|refine ChkX.mk (by kernel_rfl) ?_|refine code_q rfl ?_|refine code_d (by decide +kernel) ?_|refine end_go rfl ?_)|refine cx_tab (by assumption) rfl rfl rfl rfl rfl (by decide) rfl ?_|refine cx_yldE hmix rfl hF hA hB rfl ?_|refine cx_tab hcn rfl rfl rfl rfl rfl (by decide) rfl ?_|refine cx_locS hck rfl (by decide) ?_|refine cx_locS hcm rfl (by decide) ?_|refine cx_locS hws rfl (by decide) ?_|refine rd_ret rfl ?_|refine rg_ret rfl ?_|(refine cx_in hmix b75 rfl ?_;unfold c75)|refine len_map ?_|refine len_isl ?_|refine el_of rfl rfl ?_|refine del_own ?_|refine del_own' rfl ?_|refine as_go rfl ?_|refine rd_go rfl ?_|refine rg_end rfl ?_|refine flat_ownX ?_|refine EqLX.mk ?_|((with_reducible apply br_bq hQz)<;>(try intro hsp hQz))|exact hQz.out))<;>(try (conv=>whnf))))):p:=h ⟨hq⟩
section
variable {q:Bk} {t:TS}
theorem plain_ii {a b:Int}:Plain (.tup [.int .i64 a,.int .i64 b]):=plain_tup fun x hx=>by
 simp only [List.mem_cons,List.not_mem_nil,or_false] at hx
 rcases hx with rfl|rfl<;>exact plain_int
set_option maxHeartbeats 1600000 in
theorem b_take (hg:GoodB q) (h:TOk q.L t) (x:Nat→Int):LocB 92 1 [.agg (bcA x)] q t (.tup [.int .i64 ((tkP q.a q.n q.L q.s x).2.1:Nat),.int .i64 (tkP q.a q.n q.L q.s x).1]) { q with s:=(tkP q.a q.n q.L q.s x).2.2 } t:=by
 refine LocB.mk (loc_x hmix b92 rfl ?_) (fun x hx=>by obtain rfl:=List.mem_singleton.1 hx;exact plain_bc) plain_ii
 have hrng:=hg.rng
 unfold c92
 unfold bkN rdN
 (refine wx_Jd ?_;repeat' (first|with_reducible refine And.intro ?_ ?_|intro hsp))
 refine range_x hmix b137 rfl trivial ?_
 intro frl asl bdl hF hA hB
 unfold c137
 (refine wx_Jd ?_;repeat' (first|with_reducible refine And.intro ?_ ?_|intro hsp))
 (refine loop_x [0,1] (fun (i:Nat)=>[(3,.int .i64 ((q.a+i:Nat):Int))]) (fun (i:Nat)=>⟨bkN q t 0 1 2 3 4 5 6 7++[(8,.cells [.ptr 1 0]),(9,.cells (bcA x)),(10,.cells [.int .i64 0]),(11,.cells [.int .i64 0]),(12,.cells [.ptr 1 0]),(13,.loop .ready none frl [16,17] asl bdl)],14⟩) (fun (i:Nat)=>i≤q.n∧∀ j,j < i→0 < cntF q.L (q.a+j)) (fun (i:Nat)=>q.n - i) (0) [] rfl (fun _=>by first|exact Nat.zero_le _|(dsimp only;omega)) ?_ (by ((try (conv=>whnf));exact wkx_Jc)) ?_)
 ·exact ⟨Nat.zero_le _,fun j hj=>absurd hj (Nat.not_lt_zero _)⟩
 intro i hi
 obtain ⟨hi,hall⟩:=hi
 by_cases hil:i < q.n
 ·have hkd:=hg.kind (q.a+i) (by omega) (by omega)
  have hcn:=u_Count h (f:=q.a+i) (by omega)
  by_cases hc:0 < cntF q.L (q.a+i)
  ·have hnext:i+1≤q.n∧∀ j,j < i+1→0 < cntF q.L (q.a+j):=⟨hil,fun j hj=>by
    by_cases e:j=i
    ·rw [e];exact hc
    ·exact hall j (by omega)⟩
   generalize cntF q.L (q.a+i)=n at *
   unfold bkN rdN
   (refine wx_Jd ?_;repeat' (first|with_reducible refine And.intro ?_ ?_|intro hsp))
   all_goals exact next_x (i+1) [] hnext (by first|omega|(dsimp only;omega)) rfl (by exact wkx_Jc)
  ·have hc0:cntF q.L (q.a+i)=0:=by omega
   have hfr:=free_at hil hall hc0
   have hck:=p_kind (s:=q.s) (a:=((q.a+i:Nat):Int))
   rw [kind_at (by omega) hkd.2] at hck
   have hcm:=p_commit (a:=((q.a+i:Nat):Int)) (n:=1) hg.good
   have hce:=chg_err (s:=q.s) (f:=q.a+i) (by omega)
   have hgc:GoodS (q.s.chg ((q.a+i:Nat):Int) 1 1 2 2).2:=good_chg hg.good (by decide)
   have hf4:q.a+i < 1024:=by omega
   unfold tkP
   rw [hfr]
   dsimp only
   rw [hc0] at hcn
   have hfn:q.a+i < q.a+q.n:=by omega
   have hkk:=hkd.1
   have hM:=hkd.2
   generalize q.a+i=f at *
   generalize q.s.chg (f:Int) 1 1 2 2=r at *
   obtain ⟨e,s1⟩:=r
   dsimp only at *
   by_cases hk1:q.s.K f=1
   ·rw [if_pos hk1]
    rw [hk1] at hck
    by_cases he:e=0
    ·rw [if_pos he]
     subst he
     unfold bkN rdN
     (refine wx_Jd ?_;repeat' (first|with_reducible refine And.intro ?_ ?_|intro hsp))
     have hw0:=wrK_0 (s:=s1) (f:=f) (x:=x)
     (refine loop_x [2,4,5,6,41] (fun (k:Nat)=>[(42,.int .i64 (k:Nat))]) (fun (k:Nat)=>⟨bkN ⟨q.a,q.n,q.L,wrK s1 f x k⟩ t 0 1 2 3 4 5 6 7++[(8,.cells [.ptr 1 0]),(9,.cells (bcA x)),(10,.cells [.int .i64 0]),(11,.cells [.int .i64 0]),(12,.cells [.ptr 1 0]),(13,.loop .busy none frl [16,17] asl bdl)],25⟩) (fun (k:Nat)=>k≤64) (fun (k:Nat)=>64 - k) (0) [] rfl (fun _=>by first|exact Nat.zero_le _|(dsimp only;omega)) ?_ (by ((try (conv=>whnf));(rw [hw0]);exact wkx_Jc)) ?_)
     ·exact Nat.zero_le _
     intro k hkk
     by_cases hkl:k < 64
     ·have hws:=p_write (s:=wrK s1 f x k) (a:=(f:Int) * 64+(k:Nat)) (b:=x k)
      rw [wrK_s (hce hk1 hM rfl) hf4 hkl] at hws
      dsimp only at hws
      have hxk:(bcA x)[k]? = some (.int .u8 (x k)):=memA_get hkl
      unfold bkN rdN
      dsimp only
      (refine wx_Jd ?_;repeat' (first|with_reducible refine And.intro ?_ ?_|intro hsp))
      all_goals exact next_x (k+1) [] (by (try dsimp only);omega) (by first|omega|(dsimp only;omega)) rfl (by exact wkx_Jc)
     ·obtain rfl:k=64:=by omega
      rw [wrK_all hgc]
      unfold bkN rdN
      dsimp only
      (refine wx_Jd ?_;repeat' (first|with_reducible refine And.intro ?_ ?_|intro hsp))
      all_goals exact end_bk (q:=⟨q.a,q.n,q.L,s1.page f x⟩) rfl plain_ii rfl rfl rfl rfl rfl rfl rfl rfl
    ·rw [if_neg he]
     unfold bkN rdN
     (refine wx_Jd ?_;repeat' (first|with_reducible refine And.intro ?_ ?_|intro hsp))
     all_goals exact end_bk (q:=⟨q.a,q.n,q.L,s1⟩) rfl plain_ii rfl rfl rfl rfl rfl rfl rfl rfl
   ·rw [if_neg hk1]
    have hk2:q.s.K f=2:=hkk.resolve_left hk1
    rw [hk2] at hck
    unfold bkN rdN
    (refine wx_Jd ?_;repeat' (first|with_reducible refine And.intro ?_ ?_|intro hsp))
    have hw0:=wrK_0 (s:=q.s) (f:=f) (x:=x)
    (refine loop_x [2,4,5,6,41] (fun (k:Nat)=>[(42,.int .i64 (k:Nat))]) (fun (k:Nat)=>⟨bkN ⟨q.a,q.n,q.L,wrK q.s f x k⟩ t 0 1 2 3 4 5 6 7++[(8,.cells [.ptr 1 0]),(9,.cells (bcA x)),(10,.cells [.int .i64 0]),(11,.cells [.int .i64 0]),(12,.cells [.ptr 1 0]),(13,.loop .busy none frl [16,17] asl bdl)],25⟩) (fun (k:Nat)=>k≤64) (fun (k:Nat)=>64 - k) (0) [] rfl (fun _=>by first|exact Nat.zero_le _|(dsimp only;omega)) ?_ (by ((try (conv=>whnf));(rw [hw0]);exact wkx_Jc)) ?_)
    ·exact Nat.zero_le _
    intro k hkk
    by_cases hkl:k < 64
    ·have hws:=p_write (s:=wrK q.s f x k) (a:=(f:Int) * 64+(k:Nat)) (b:=x k)
     rw [wrK_s hk2 hf4 hkl] at hws
     dsimp only at hws
     have hxk:(bcA x)[k]? = some (.int .u8 (x k)):=memA_get hkl
     unfold bkN rdN
     dsimp only
     (refine wx_Jd ?_;repeat' (first|with_reducible refine And.intro ?_ ?_|intro hsp))
     all_goals exact next_x (k+1) [] (by (try dsimp only);omega) (by first|omega|(dsimp only;omega)) rfl (by exact wkx_Jc)
    ·obtain rfl:k=64:=by omega
     rw [wrK_all hg.good]
     unfold bkN rdN
     dsimp only
     (refine wx_Jd ?_;repeat' (first|with_reducible refine And.intro ?_ ?_|intro hsp))
     all_goals exact end_bk (q:=⟨q.a,q.n,q.L,q.s.page f x⟩) rfl plain_ii rfl rfl rfl rfl rfl rfl rfl rfl
 ·obtain rfl:i=q.n:=by omega
  have hfr:=free_not hall
  unfold tkP
  rw [hfr]
  dsimp only
  unfold bkN rdN
  (refine wx_Jd ?_;repeat' (first|with_reducible refine And.intro ?_ ?_|intro hsp))
  all_goals exact end_bk rfl plain_ii rfl rfl rfl rfl rfl rfl rfl rfl
end
end Go.Proofs.YtphggldkligldaaGreat.Sh
