/-
  The law's call, over any contracts of the system's methods.
-/
import Derived.Test.YtjlbfijjfjogiaaUa
set_option linter.unusedSimpArgs false
set_option linter.unusedVariables false
namespace Go.Pol
open Go.Am
theorem tm19 {w k : Nat} (h : w % 19 = k) : ((w : Nat) : Int).tmod 19 = ((k : Nat) : Int) := by rw [← h]; exact (Int.ofNat_tmod w 19).symm
theorem plain_acl {x : Ac} : ∀ y ∈ acA x, Plain y := fun y hy => by
  unfold acA at hy
  simp only [List.mem_cons, List.not_mem_nil, or_false] at hy
  rcases hy with rfl | rfl | rfl | rfl | rfl | rfl
  · exact plain_int
  · exact plain_int
  · exact plain_int
  · exact plain_int
  · exact plain_int
  · exact plain_isls rlA_plain
theorem plain_ac {x : Ac} : Plain (.agg (acA x)) := plain_agg plain_acl
end Go.Pol
namespace Go.Proofs.Ytjlbfijjfjogiaa
open Go Go.Am Go.Pol
theorem wuc {p q : Prop} (hq : q) (h : HidP q → p := by (intro hQz; ((repeat' ((try (conv => whnf)); first | (with_reducible first | refine run_cons ?_ | refine runq_cons ?_ | refine code_seq ?_ | refine code_reg ?_ | refine code_cond ?_ | refine run_nil ?_ | refine runq_nil ?_ | refine rund_op rfl ?_ | refine rund_nil ?_ | refine code_block ?_ | refine code_skip ?_ | refine code_exit ?_ | refine code_ret ?_ | refine code_range ?_ | refine rund_fast (by decide +kernel) ?_ | refine rund_slow (by decide +kernel) ?_ | refine br_tt ?_ | refine br_ff ?_ | refine br_n ?_ | refine br_and ?_ | refine br_or ?_ | refine br_t (by assumption) ?_ | refine br_f (by assumption) ?_ | refine eq_i64 (by omega) ?_ | refine el_tn ?_) | ((with_reducible refine br_dt ?_ ?_); focus omega) | ((with_reducible refine br_df ?_ ?_); focus omega) | ((with_reducible apply br_dq hQz) <;> (try intro hsp hQz)) | ((with_reducible refine ck_x ?_ ?_); focus (first | omega | rfl | assumption | decide | (simp only [List.length_map, List.length_cons, List.length_nil]; omega))) | (with_reducible first | refine eq_tn ?_ | refine eq_tn1 ?_ | refine eq_tn2 ?_ | refine eq_m1 ?_ | refine eq_m2 ?_ | refine eq_zm ?_ | refine eq_z ?_ | refine len_map ?_ | refine len_sl ?_ | refine len_nils ?_ | refine len_own' ?_ | refine len_isl ?_ | refine eq_u8 (by omega) ?_ | refine eq_u16 (by omega) ?_) | refine eq_of (by with_reducible assumption) ?_ | (with_reducible first | refine eq_rfl ?_ | refine ChkX.mk (by kernel_rfl) ?_ | refine code_q rfl ?_ | refine code_d (by decide +kernel) ?_ | refine end_go rfl ?_) | refine cx_locS (by assumption) rfl (by omega) ?_ | refine cx_pureS (by assumption) ?_ | refine len_map ?_ | refine len_isl ?_ | refine el_of rfl rfl ?_ | refine del_own ?_ | refine del_own' rfl ?_ | refine as_go rfl ?_ | refine rd_go rfl ?_ | refine rg_end rfl ?_ | refine flat_ownX ?_ | refine EqLX.mk ?_ | ((with_reducible apply br_bq hQz) <;> (try intro hsp hQz)) | exact hQz.out)) <;> (try (conv => whnf))))) : p := h ⟨hq⟩
section
variable {x : Ac} {cs ds : List AV} {r : AV}
theorem c_reserve (hk : x.w % 19 = 0 ∨ x.w % 19 = 1) (z : LocS 36 [.int .i64 x.p, .int .i64 x.n] cs r ds) : LocS 19 [.agg (acA x)] cs r ds := by
  refine LocS.mk (loc_x hmix b19 rfl ?_) z.pc z.pd (plain_1 plain_ac) z.pr
  have pr := z.pr
  unfold c19 acA
  rcases hk with hk | hk
  · have hk : ((x.w : Nat) : Int).tmod 19 = 0 := tm19 hk
    (refine wuc ?_; repeat' (first | with_reducible refine And.intro ?_ ?_ | intro hsp))
    all_goals first | exact end_s rfl z.pr rfl z.pd
  · have hk : ((x.w : Nat) : Int).tmod 19 = 1 := tm19 hk
    (refine wuc ?_; repeat' (first | with_reducible refine And.intro ?_ ?_ | intro hsp))
    all_goals first | exact end_s rfl z.pr rfl z.pd
theorem c_release (hk : x.w % 19 = 2) (z : LocS 35 [.int .i64 x.p, .int .i64 x.n] cs r ds) : LocS 19 [.agg (acA x)] cs r ds := by
  refine LocS.mk (loc_x hmix b19 rfl ?_) z.pc z.pd (plain_1 plain_ac) z.pr
  have pr := z.pr
  unfold c19 acA
  have hk : ((x.w : Nat) : Int).tmod 19 = 2 := tm19 hk
  (refine wuc ?_; repeat' (first | with_reducible refine And.intro ?_ ?_ | intro hsp))
  all_goals first | exact end_s rfl z.pr rfl z.pd
theorem c_commit (hk : x.w % 19 = 3 ∨ x.w % 19 = 4 ∨ x.w % 19 = 5) (z : LocS 30 [.int .i64 x.p, .int .i64 x.n] cs r ds) : LocS 19 [.agg (acA x)] cs r ds := by
  refine LocS.mk (loc_x hmix b19 rfl ?_) z.pc z.pd (plain_1 plain_ac) z.pr
  have pr := z.pr
  unfold c19 acA
  rcases hk with hk | hk | hk
  · have hk : ((x.w : Nat) : Int).tmod 19 = 3 := tm19 hk
    (refine wuc ?_; repeat' (first | with_reducible refine And.intro ?_ ?_ | intro hsp))
    all_goals first | exact end_s rfl z.pr rfl z.pd
  · have hk : ((x.w : Nat) : Int).tmod 19 = 4 := tm19 hk
    (refine wuc ?_; repeat' (first | with_reducible refine And.intro ?_ ?_ | intro hsp))
    all_goals first | exact end_s rfl z.pr rfl z.pd
  · have hk : ((x.w : Nat) : Int).tmod 19 = 5 := tm19 hk
    (refine wuc ?_; repeat' (first | with_reducible refine And.intro ?_ ?_ | intro hsp))
    all_goals first | exact end_s rfl z.pr rfl z.pd
theorem c_decommit (hk : x.w % 19 = 6 ∨ x.w % 19 = 7) (z : LocS 29 [.int .i64 x.p, .int .i64 x.n] cs r ds) : LocS 19 [.agg (acA x)] cs r ds := by
  refine LocS.mk (loc_x hmix b19 rfl ?_) z.pc z.pd (plain_1 plain_ac) z.pr
  have pr := z.pr
  unfold c19 acA
  rcases hk with hk | hk
  · have hk : ((x.w : Nat) : Int).tmod 19 = 6 := tm19 hk
    (refine wuc ?_; repeat' (first | with_reducible refine And.intro ?_ ?_ | intro hsp))
    all_goals first | exact end_s rfl z.pr rfl z.pd
  · have hk : ((x.w : Nat) : Int).tmod 19 = 7 := tm19 hk
    (refine wuc ?_; repeat' (first | with_reducible refine And.intro ?_ ?_ | intro hsp))
    all_goals first | exact end_s rfl z.pr rfl z.pd
theorem c_protect (hk : x.w % 19 = 8 ∨ x.w % 19 = 9) (z : LocS 34 [.int .i64 x.p, .int .i64 x.n, .bool (decide (x.n.tmod 2 = 0))] cs r ds) : LocS 19 [.agg (acA x)] cs r ds := by
  refine LocS.mk (loc_x hmix b19 rfl ?_) z.pc z.pd (plain_1 plain_ac) z.pr
  have pr := z.pr
  unfold c19 acA
  rcases hk with hk | hk
  · have hk : ((x.w : Nat) : Int).tmod 19 = 8 := tm19 hk
    (refine wuc ?_; repeat' (first | with_reducible refine And.intro ?_ ?_ | intro hsp))
    all_goals first | exact end_s rfl z.pr rfl z.pd
  · have hk : ((x.w : Nat) : Int).tmod 19 = 9 := tm19 hk
    (refine wuc ?_; repeat' (first | with_reducible refine And.intro ?_ ?_ | intro hsp))
    all_goals first | exact end_s rfl z.pr rfl z.pd
theorem c_join (hk : x.w % 19 = 10 ∨ x.w % 19 = 11) (z : LocS 51 [.int .i64 x.p] cs r ds) : LocS 19 [.agg (acA x)] cs r ds := by
  refine LocS.mk (loc_x hmix b19 rfl ?_) z.pc z.pd (plain_1 plain_ac) z.pr
  have pr := z.pr
  unfold c19 acA
  rcases hk with hk | hk
  · have hk : ((x.w : Nat) : Int).tmod 19 = 10 := tm19 hk
    (refine wuc ?_; repeat' (first | with_reducible refine And.intro ?_ ?_ | intro hsp))
    all_goals first | exact end_s rfl z.pr rfl z.pd
  · have hk : ((x.w : Nat) : Int).tmod 19 = 11 := tm19 hk
    (refine wuc ?_; repeat' (first | with_reducible refine And.intro ?_ ?_ | intro hsp))
    all_goals first | exact end_s rfl z.pr rfl z.pd
theorem c_split (hk : x.w % 19 = 12) (z : LocS 33 [.int .i64 x.p] cs r ds) : LocS 19 [.agg (acA x)] cs r ds := by
  refine LocS.mk (loc_x hmix b19 rfl ?_) z.pc z.pd (plain_1 plain_ac) z.pr
  have pr := z.pr
  unfold c19 acA
  have hk : ((x.w : Nat) : Int).tmod 19 = 12 := tm19 hk
  (refine wuc ?_; repeat' (first | with_reducible refine And.intro ?_ ?_ | intro hsp))
  all_goals first | exact end_s rfl z.pr rfl z.pd
theorem c_write (hk : x.w % 19 = 13 ∨ x.w % 19 = 14 ∨ x.w % 19 = 15) (z : LocS 28 [.int .i64 x.t, .int .u8 x.b] cs r ds) : LocS 19 [.agg (acA x)] cs r ds := by
  refine LocS.mk (loc_x hmix b19 rfl ?_) z.pc z.pd (plain_1 plain_ac) z.pr
  have pr := z.pr
  unfold c19 acA
  rcases hk with hk | hk | hk
  · have hk : ((x.w : Nat) : Int).tmod 19 = 13 := tm19 hk
    (refine wuc ?_; repeat' (first | with_reducible refine And.intro ?_ ?_ | intro hsp))
    all_goals first | exact end_s rfl z.pr rfl z.pd
  · have hk : ((x.w : Nat) : Int).tmod 19 = 14 := tm19 hk
    (refine wuc ?_; repeat' (first | with_reducible refine And.intro ?_ ?_ | intro hsp))
    all_goals first | exact end_s rfl z.pr rfl z.pd
  · have hk : ((x.w : Nat) : Int).tmod 19 = 15 := tm19 hk
    (refine wuc ?_; repeat' (first | with_reducible refine And.intro ?_ ?_ | intro hsp))
    all_goals first | exact end_s rfl z.pr rfl z.pd
theorem c_plan (hk : x.w % 19 = 16 ∨ x.w % 19 = 17 ∨ x.w % 19 = 18) (z : LocS 26 [.agg [.isl (x.l.map rlA)]] cs r ds) : LocS 19 [.agg (acA x)] cs r ds := by
  refine LocS.mk (loc_x hmix b19 rfl ?_) z.pc z.pd (plain_1 plain_ac) z.pr
  have pr := z.pr
  unfold c19 acA
  rcases hk with hk | hk | hk
  · have hk : ((x.w : Nat) : Int).tmod 19 = 16 := tm19 hk
    (refine wuc ?_; repeat' (first | with_reducible refine And.intro ?_ ?_ | intro hsp))
    all_goals first | exact end_s rfl z.pr rfl z.pd
  · have hk : ((x.w : Nat) : Int).tmod 19 = 17 := tm19 hk
    (refine wuc ?_; repeat' (first | with_reducible refine And.intro ?_ ?_ | intro hsp))
    all_goals first | exact end_s rfl z.pr rfl z.pd
  · have hk : ((x.w : Nat) : Int).tmod 19 = 18 := tm19 hk
    (refine wuc ?_; repeat' (first | with_reducible refine And.intro ?_ ?_ | intro hsp))
    all_goals first | exact end_s rfl z.pr rfl z.pd
theorem o_reserve (hk : x.w % 19 = 0 ∨ x.w % 19 = 1) (z : PureS 36 (.nilp :: [.int .i64 x.p, .int .i64 x.n]) (.int .i64 1)) : PureS 19 [.nilp, .agg (acA x)] (.int .i64 1) := by
  refine PureS.mk (pure_x hmix b19 plainG ⟨plain_nilp, plain_ac, trivial⟩ plain_int rfl ?_)
  unfold c19 acA
  rcases hk with hk | hk
  · have hk : ((x.w : Nat) : Int).tmod 19 = 0 := tm19 hk
    (refine wuc ?_; repeat' (first | with_reducible refine And.intro ?_ ?_ | intro hsp))
    all_goals first | exact end_int rfl
  · have hk : ((x.w : Nat) : Int).tmod 19 = 1 := tm19 hk
    (refine wuc ?_; repeat' (first | with_reducible refine And.intro ?_ ?_ | intro hsp))
    all_goals first | exact end_int rfl
theorem o_release (hk : x.w % 19 = 2) (z : PureS 35 (.nilp :: [.int .i64 x.p, .int .i64 x.n]) (.int .i64 1)) : PureS 19 [.nilp, .agg (acA x)] (.int .i64 1) := by
  refine PureS.mk (pure_x hmix b19 plainG ⟨plain_nilp, plain_ac, trivial⟩ plain_int rfl ?_)
  unfold c19 acA
  have hk : ((x.w : Nat) : Int).tmod 19 = 2 := tm19 hk
  (refine wuc ?_; repeat' (first | with_reducible refine And.intro ?_ ?_ | intro hsp))
  all_goals first | exact end_int rfl
theorem o_commit (hk : x.w % 19 = 3 ∨ x.w % 19 = 4 ∨ x.w % 19 = 5) (z : PureS 30 (.nilp :: [.int .i64 x.p, .int .i64 x.n]) (.int .i64 1)) : PureS 19 [.nilp, .agg (acA x)] (.int .i64 1) := by
  refine PureS.mk (pure_x hmix b19 plainG ⟨plain_nilp, plain_ac, trivial⟩ plain_int rfl ?_)
  unfold c19 acA
  rcases hk with hk | hk | hk
  · have hk : ((x.w : Nat) : Int).tmod 19 = 3 := tm19 hk
    (refine wuc ?_; repeat' (first | with_reducible refine And.intro ?_ ?_ | intro hsp))
    all_goals first | exact end_int rfl
  · have hk : ((x.w : Nat) : Int).tmod 19 = 4 := tm19 hk
    (refine wuc ?_; repeat' (first | with_reducible refine And.intro ?_ ?_ | intro hsp))
    all_goals first | exact end_int rfl
  · have hk : ((x.w : Nat) : Int).tmod 19 = 5 := tm19 hk
    (refine wuc ?_; repeat' (first | with_reducible refine And.intro ?_ ?_ | intro hsp))
    all_goals first | exact end_int rfl
theorem o_decommit (hk : x.w % 19 = 6 ∨ x.w % 19 = 7) (z : PureS 29 (.nilp :: [.int .i64 x.p, .int .i64 x.n]) (.int .i64 1)) : PureS 19 [.nilp, .agg (acA x)] (.int .i64 1) := by
  refine PureS.mk (pure_x hmix b19 plainG ⟨plain_nilp, plain_ac, trivial⟩ plain_int rfl ?_)
  unfold c19 acA
  rcases hk with hk | hk
  · have hk : ((x.w : Nat) : Int).tmod 19 = 6 := tm19 hk
    (refine wuc ?_; repeat' (first | with_reducible refine And.intro ?_ ?_ | intro hsp))
    all_goals first | exact end_int rfl
  · have hk : ((x.w : Nat) : Int).tmod 19 = 7 := tm19 hk
    (refine wuc ?_; repeat' (first | with_reducible refine And.intro ?_ ?_ | intro hsp))
    all_goals first | exact end_int rfl
theorem o_protect (hk : x.w % 19 = 8 ∨ x.w % 19 = 9) (z : PureS 34 (.nilp :: [.int .i64 x.p, .int .i64 x.n, .bool (decide (x.n.tmod 2 = 0))]) (.int .i64 1)) : PureS 19 [.nilp, .agg (acA x)] (.int .i64 1) := by
  refine PureS.mk (pure_x hmix b19 plainG ⟨plain_nilp, plain_ac, trivial⟩ plain_int rfl ?_)
  unfold c19 acA
  rcases hk with hk | hk
  · have hk : ((x.w : Nat) : Int).tmod 19 = 8 := tm19 hk
    (refine wuc ?_; repeat' (first | with_reducible refine And.intro ?_ ?_ | intro hsp))
    all_goals first | exact end_int rfl
  · have hk : ((x.w : Nat) : Int).tmod 19 = 9 := tm19 hk
    (refine wuc ?_; repeat' (first | with_reducible refine And.intro ?_ ?_ | intro hsp))
    all_goals first | exact end_int rfl
theorem o_join (hk : x.w % 19 = 10 ∨ x.w % 19 = 11) (z : PureS 51 (.nilp :: [.int .i64 x.p]) (.int .i64 1)) : PureS 19 [.nilp, .agg (acA x)] (.int .i64 1) := by
  refine PureS.mk (pure_x hmix b19 plainG ⟨plain_nilp, plain_ac, trivial⟩ plain_int rfl ?_)
  unfold c19 acA
  rcases hk with hk | hk
  · have hk : ((x.w : Nat) : Int).tmod 19 = 10 := tm19 hk
    (refine wuc ?_; repeat' (first | with_reducible refine And.intro ?_ ?_ | intro hsp))
    all_goals first | exact end_int rfl
  · have hk : ((x.w : Nat) : Int).tmod 19 = 11 := tm19 hk
    (refine wuc ?_; repeat' (first | with_reducible refine And.intro ?_ ?_ | intro hsp))
    all_goals first | exact end_int rfl
theorem o_split (hk : x.w % 19 = 12) (z : PureS 33 (.nilp :: [.int .i64 x.p]) (.int .i64 1)) : PureS 19 [.nilp, .agg (acA x)] (.int .i64 1) := by
  refine PureS.mk (pure_x hmix b19 plainG ⟨plain_nilp, plain_ac, trivial⟩ plain_int rfl ?_)
  unfold c19 acA
  have hk : ((x.w : Nat) : Int).tmod 19 = 12 := tm19 hk
  (refine wuc ?_; repeat' (first | with_reducible refine And.intro ?_ ?_ | intro hsp))
  all_goals first | exact end_int rfl
theorem o_write (hk : x.w % 19 = 13 ∨ x.w % 19 = 14 ∨ x.w % 19 = 15) (z : PureS 28 (.nilp :: [.int .i64 x.t, .int .u8 x.b]) (.int .i64 1)) : PureS 19 [.nilp, .agg (acA x)] (.int .i64 1) := by
  refine PureS.mk (pure_x hmix b19 plainG ⟨plain_nilp, plain_ac, trivial⟩ plain_int rfl ?_)
  unfold c19 acA
  rcases hk with hk | hk | hk
  · have hk : ((x.w : Nat) : Int).tmod 19 = 13 := tm19 hk
    (refine wuc ?_; repeat' (first | with_reducible refine And.intro ?_ ?_ | intro hsp))
    all_goals first | exact end_int rfl
  · have hk : ((x.w : Nat) : Int).tmod 19 = 14 := tm19 hk
    (refine wuc ?_; repeat' (first | with_reducible refine And.intro ?_ ?_ | intro hsp))
    all_goals first | exact end_int rfl
  · have hk : ((x.w : Nat) : Int).tmod 19 = 15 := tm19 hk
    (refine wuc ?_; repeat' (first | with_reducible refine And.intro ?_ ?_ | intro hsp))
    all_goals first | exact end_int rfl
theorem o_plan (hk : x.w % 19 = 16 ∨ x.w % 19 = 17 ∨ x.w % 19 = 18) (z : PureS 26 (.nilp :: [.agg [.isl (x.l.map rlA)]]) (.int .i64 1)) : PureS 19 [.nilp, .agg (acA x)] (.int .i64 1) := by
  refine PureS.mk (pure_x hmix b19 plainG ⟨plain_nilp, plain_ac, trivial⟩ plain_int rfl ?_)
  unfold c19 acA
  rcases hk with hk | hk | hk
  · have hk : ((x.w : Nat) : Int).tmod 19 = 16 := tm19 hk
    (refine wuc ?_; repeat' (first | with_reducible refine And.intro ?_ ?_ | intro hsp))
    all_goals first | exact end_int rfl
  · have hk : ((x.w : Nat) : Int).tmod 19 = 17 := tm19 hk
    (refine wuc ?_; repeat' (first | with_reducible refine And.intro ?_ ?_ | intro hsp))
    all_goals first | exact end_int rfl
  · have hk : ((x.w : Nat) : Int).tmod 19 = 18 := tm19 hk
    (refine wuc ?_; repeat' (first | with_reducible refine And.intro ?_ ?_ | intro hsp))
    all_goals first | exact end_int rfl
end
end Go.Proofs.Ytjlbfijjfjogiaa
