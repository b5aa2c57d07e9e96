/-
  Reserve, Release, Commit, Decommit, Protect of the program.
-/
import Derived.Test.YtjlbfijjfjogiaaSe
set_option linter.unusedSimpArgs false
set_option linter.unusedVariables false
namespace Go.Proofs.Ytjlbfijjfjogiaa
open Go Go.Am Go.Pol
structure LocQ (cs ds : List AV) (v w a n k : Int) (r : AV) : Prop where
  out : LocC Try.prog G0 66 [.ptr 0 0, .int .i64 a, .int .i64 n, .agg [.int .i64 k, .fn 85 [] [.ptr 1 0], .fn 86 [] [.ptr 2 0]]] [(0, .cells cs), (1, .cells [.int .i64 v]), (2, .cells [.int .i64 w])] 3 fun x h1 => x = r ∧ h1 = ⟨[(0, .cells ds), (1, .cells [.int .i64 v]), (2, .cells [.int .i64 w])], 3⟩
  pc : ∀ x ∈ cs, Plain x
  pd : ∀ x ∈ ds, Plain x
  pr : Plain r
theorem cx_make {cs ds : List AV} {v w x y k : Int} {a b c nx : Nat} {l : List (Nat × AObj)} {r : AV} {K : AV → Hp → Prop} (hc : LocQ cs ds v w x y k r)
    (hl0 : lk l a = some (.cells cs)) (hl1 : lk l b = some (.cells [.int .i64 v])) (hl2 : lk l c = some (.cells [.int .i64 w])) (hd : nodB [a, b, c] = true) (hlt : a < nx ∧ b < nx ∧ c < nx)
    (hk : filtK [a, b, c] l fun l2 => K r ⟨[(a, .cells ds), (b, .cells [.int .i64 v]), (c, .cells [.int .i64 w])] ++ l2, nx⟩) : CallX Try.prog G0 (.fn 66 [] []) [.ptr a 0, .int .i64 x, .int .i64 y, .agg [.int .i64 k, .fn 85 [] [.ptr b 0], .fn 86 [] [.ptr c 0]]] ⟨l, nx⟩ K := by
  have e0 : enter [a, b, c] a 0 := rfl
  have e1 : enter [a, b, c] b 1 := rfl
  have e2 : enter [a, b, c] c 2 := rfl
  have k0 : back [a, b, c] nx 0 a := rfl
  have k1 : back [a, b, c] nx 1 b := rfl
  have k2 : back [a, b, c] nx 2 c := rfl
  refine cx_loc (l1 := [(a, .cells ds), (b, .cells [.int .i64 v]), (c, .cells [.int .i64 w])]) [a, b, c] hc.out plainG hd (.cons e0 hl0 (rnl_plain hc.pc) (.cons e1 hl1 (rnl_plain (plain_1 plain_int)) (.cons e2 hl2 (rnl_plain (plain_1 plain_int)) .nil)))
    ?_ (by intro x hx; simp only [List.mem_cons, List.not_mem_nil, or_false] at hx; omega) (rn_plain hc.pr)
    (.cons k0 (rnl_plain hc.pd) (.cons k1 (rnl_plain (plain_1 plain_int)) (.cons k2 (rnl_plain (plain_1 plain_int)) .nil))) hk
  simp only [List.nil_append, List.append_nil]
  exact ⟨rn_ptr e0, rn_plain plain_int, rn_plain plain_int, rn_agg ⟨rn_plain plain_int, rn_fn trivial ⟨rn_ptr e1, trivial⟩, rn_fn trivial ⟨rn_ptr e2, trivial⟩, trivial⟩, trivial⟩
theorem wq {p q : Prop} (hq : q) (h : HidP q → p := by (intro hQz; ((repeat' ((try (conv => whnf)); first | (with_reducible first | refine run_cons ?_ | refine runq_cons ?_ | refine code_seq ?_ | refine code_reg ?_ | refine code_cond ?_ | refine run_nil ?_ | refine runq_nil ?_ | refine rund_op rfl ?_ | refine rund_nil ?_ | refine code_block ?_ | refine code_skip ?_ | refine code_exit ?_ | refine code_ret ?_ | refine code_range ?_ | refine rund_fast (by decide +kernel) ?_ | refine rund_slow (by decide +kernel) ?_ | refine br_tt ?_ | refine br_ff ?_ | refine br_n ?_ | refine br_and ?_ | refine br_or ?_ | refine br_t (by assumption) ?_ | refine br_f (by assumption) ?_ | refine eq_i64 (by omega) ?_ | refine el_tn ?_) | ((with_reducible refine br_dt ?_ ?_); focus omega) | ((with_reducible refine br_df ?_ ?_); focus omega) | ((with_reducible apply br_dq hQz) <;> (try intro hsp hQz)) | ((with_reducible refine ck_x ?_ ?_); focus (first | omega | rfl | assumption | decide | (simp only [List.length_map, List.length_cons, List.length_nil]; omega))) | (with_reducible first | refine eq_tn ?_ | refine eq_tn1 ?_ | refine eq_tn2 ?_ | refine eq_m1 ?_ | refine eq_m2 ?_ | refine eq_zm ?_ | refine eq_z ?_ | refine len_map ?_ | refine len_sl ?_ | refine len_nils ?_ | refine len_own' ?_ | refine len_isl ?_ | refine eq_u8 (by omega) ?_ | refine eq_u16 (by omega) ?_) | refine eq_of (by with_reducible assumption) ?_ | (with_reducible first | refine eq_rfl ?_ | refine ChkX.mk (by kernel_rfl) ?_ | refine code_q rfl ?_ | refine code_d (by decide +kernel) ?_ | refine end_go rfl ?_) | refine cx_make (by assumption) rfl rfl rfl rfl (by omega) ?_ | (refine cx_in hmix b67 rfl ?_; unfold c67) | refine len_map ?_ | refine len_isl ?_ | refine el_of rfl rfl ?_ | refine del_own ?_ | refine del_own' rfl ?_ | refine as_go rfl ?_ | refine rd_go rfl ?_ | refine rg_end rfl ?_ | refine flat_ownX ?_ | refine EqLX.mk ?_ | ((with_reducible apply br_bq hQz) <;> (try intro hsp hQz)) | exact hQz.out)) <;> (try (conv => whnf))))) : p := h ⟨hq⟩
section
variable {cs ds : List AV} {a n : Int} {r : AV}
theorem k_reserve (hq : LocQ cs ds 0 1 a n 0 r) : LocS 36 [.int .i64 a, .int .i64 n] cs r ds := by
  refine LocS.mk (loc_x hmix b36 rfl ?_) hq.pc hq.pd (plain_2 plain_int plain_int) hq.pr
  unfold c36
  (refine wq ?_; repeat' (first | with_reducible refine And.intro ?_ ?_ | intro hsp))
  all_goals exact end_s rfl hq.pr rfl hq.pd
theorem k_release (hq : LocQ cs ds 1 0 a n 1 r) : LocS 35 [.int .i64 a, .int .i64 n] cs r ds := by
  refine LocS.mk (loc_x hmix b35 rfl ?_) hq.pc hq.pd (plain_2 plain_int plain_int) hq.pr
  unfold c35
  (refine wq ?_; repeat' (first | with_reducible refine And.intro ?_ ?_ | intro hsp))
  all_goals exact end_s rfl hq.pr rfl hq.pd
theorem k_commit (hq : LocQ cs ds 1 2 a n 2 r) : LocS 30 [.int .i64 a, .int .i64 n] cs r ds := by
  refine LocS.mk (loc_x hmix b30 rfl ?_) hq.pc hq.pd (plain_2 plain_int plain_int) hq.pr
  unfold c30
  (refine wq ?_; repeat' (first | with_reducible refine And.intro ?_ ?_ | intro hsp))
  all_goals exact end_s rfl hq.pr rfl hq.pd
theorem k_decommit (hq : LocQ cs ds 2 1 a n 3 r) : LocS 29 [.int .i64 a, .int .i64 n] cs r ds := by
  refine LocS.mk (loc_x hmix b29 rfl ?_) hq.pc hq.pd (plain_2 plain_int plain_int) hq.pr
  unfold c29
  (refine wq ?_; repeat' (first | with_reducible refine And.intro ?_ ?_ | intro hsp))
  all_goals exact end_s rfl hq.pr rfl hq.pd
theorem plain_iib {a n : Int} {b : Bool} : ∀ x ∈ [AV.int .i64 a, .int .i64 n, .bool b], Plain x := fun x hx => by
  rcases List.mem_cons.1 hx with rfl | hx
  · exact plain_int
  · exact plain_2 plain_int plain_bool x hx
theorem k_protect_t (hq : LocQ cs ds 1 3 a n 4 r) : LocS 34 [.int .i64 a, .int .i64 n, .bool true] cs r ds := by
  refine LocS.mk (loc_x hmix b34 rfl ?_) hq.pc hq.pd plain_iib hq.pr
  unfold c34
  (refine wq ?_; repeat' (first | with_reducible refine And.intro ?_ ?_ | intro hsp))
  all_goals exact end_s rfl hq.pr rfl hq.pd
theorem k_protect_f (hq : LocQ cs ds 3 1 a n 4 r) : LocS 34 [.int .i64 a, .int .i64 n, .bool false] cs r ds := by
  refine LocS.mk (loc_x hmix b34 rfl ?_) hq.pc hq.pd plain_iib hq.pr
  unfold c34
  (refine wq ?_; repeat' (first | with_reducible refine And.intro ?_ ?_ | intro hsp))
  all_goals exact end_s rfl hq.pr rfl hq.pd
end
end Go.Proofs.Ytjlbfijjfjogiaa
