/-
  The law's step, over any contracts of both systems' methods.
  What a step and a call of the law do, plain; both walked.
-/
import Derived.Test.YtjlbfijjfjogiaaVmG
set_option linter.unusedSimpArgs false
set_option linter.unusedVariables false
namespace Go.Proofs.Ytjlbfijjfjogiaa
open Go Go.Am Go.Pol
/-- A step of both: the systems' blocks behind it. -/
structure LocU (x : Ac) (cs cs' ds ds' : List AV) : Prop where
  out : LocC Try.prog G0 23 [.ptr 0 0, .ptr 1 0, .agg (acA x)] [(0, .cells cs), (1, .cells cs')] 2 fun v h => v = .tup [.ptr 0 0, .bool true] ∧ h = ⟨[(0, .cells ds), (1, .cells ds')], 2⟩
  pc : ∀ x ∈ cs, Plain x
  pc' : ∀ x ∈ cs', Plain x
  pd : ∀ x ∈ ds, Plain x
  pd' : ∀ x ∈ ds', Plain x
theorem end_u {top : Bool} {h : Hp} {v : AV} {ds ds' : List AV} (hv : v = .tup [.ptr 0 0, .bool true]) (h0 : lk h.l 0 = some (.cells ds)) (h1 : lk h.l 1 = some (.cells ds')) (pd : ∀ x ∈ ds, Plain x) (pd' : ∀ x ∈ ds', Plain x) :
    EndX top Try.prog 2 h v (fun r' h' => r' = .tup [.ptr 0 0, .bool true] ∧ h' = ⟨[(0, .cells ds), (1, .cells ds')], 2⟩) := by
  subst hv
  have hs : SubH (rn []) h ⟨[(0, .cells ds), (1, .cells ds')], 2⟩ := fun i o hi => by
    simp only [lk] at hi
    show ∃ o', lk h.l i = some o'
    split at hi
    · rename_i e; subst e; exact ⟨_, h0⟩
    · split at hi
      · rename_i e; subst e; exact ⟨_, h1⟩
      · cases hi
  exact end_loc [] rfl (Nat.le_refl _) (oneOf_of rfl) (wk_tup (wkl_cons (wk_ptr rfl (show 0 < 2 by decide)) (wkl_cons (wk_bool rfl) wkl_nil))) (wko_plain hs (show 0 < 2 by decide) h0 rfl pd (wko_plain hs (show 1 < 2 by decide) h1 rfl pd' wko_nil)) ⟨rfl, rfl⟩
theorem cx_u {x : Ac} {cs cs' ds ds' : List AV} {a b nx : Nat} {l : List (Nat × AObj)} {K : AV → Hp → Prop} (hc : LocU x cs cs' ds ds')
    (hl0 : lk l a = some (.cells cs)) (hl1 : lk l b = some (.cells cs')) (hd : nodB [a, b] = true) (hlt : a < nx ∧ b < nx)
    (hk : filtK [a, b] l fun l2 => K (.tup [.ptr a 0, .bool true]) ⟨[(a, .cells ds), (b, .cells ds')] ++ l2, nx⟩) : CallX Try.prog G0 (.fn 23 [] []) [.ptr a 0, .ptr b 0, .agg (acA x)] ⟨l, nx⟩ K := by
  have e0 : enter [a, b] a 0 := rfl
  have e1 : enter [a, b] b 1 := rfl
  have k0 : back [a, b] nx 0 a := rfl
  have k1 : back [a, b] nx 1 b := rfl
  refine cx_loc (r' := .tup [.ptr a 0, .bool true]) (l1 := [(a, .cells ds), (b, .cells ds')]) [a, b] hc.out plainG hd (.cons e0 hl0 (rnl_plain hc.pc) (.cons e1 hl1 (rnl_plain hc.pc') .nil))
    ?_ (by intro x hx; simp only [List.mem_cons, List.not_mem_nil, or_false] at hx; omega) (rn_tup ⟨rn_ptr k0, rn_plain plain_bool, trivial⟩)
    (.cons k0 (rnl_plain hc.pd) (.cons k1 (rnl_plain hc.pd') .nil)) hk
  simp only [List.nil_append, List.append_nil]
  exact ⟨rn_ptr e0, rn_ptr e1, rn_plain plain_ac, trivial⟩
theorem wuf {p q : Prop} (hq : q) (h : HidP q → p := by (intro hQz; ((repeat' ((try (conv => whnf)); first | (with_reducible first | refine run_cons ?_ | refine runq_cons ?_ | refine code_seq ?_ | refine code_reg ?_ | refine code_cond ?_ | refine run_nil ?_ | refine runq_nil ?_ | refine rund_op rfl ?_ | refine rund_nil ?_ | refine code_block ?_ | refine code_skip ?_ | refine code_exit ?_ | refine code_ret ?_ | refine code_range ?_ | refine rund_fast (by decide +kernel) ?_ | refine rund_slow (by decide +kernel) ?_ | refine br_tt ?_ | refine br_ff ?_ | refine br_n ?_ | refine br_and ?_ | refine br_or ?_ | refine br_t (by assumption) ?_ | refine br_f (by assumption) ?_ | refine eq_i64 (by omega) ?_ | refine el_tn ?_) | ((with_reducible refine br_dt ?_ ?_); focus omega) | ((with_reducible refine br_df ?_ ?_); focus omega) | ((with_reducible apply br_dq hQz) <;> (try intro hsp hQz)) | ((with_reducible refine ck_x ?_ ?_); focus (first | omega | rfl | assumption | decide | (simp only [List.length_map, List.length_cons, List.length_nil]; omega))) | (with_reducible first | refine eq_tn ?_ | refine eq_tn1 ?_ | refine eq_tn2 ?_ | refine eq_m1 ?_ | refine eq_m2 ?_ | refine eq_zm ?_ | refine eq_z ?_ | refine len_map ?_ | refine len_sl ?_ | refine len_nils ?_ | refine len_own' ?_ | refine len_isl ?_ | refine eq_u8 (by omega) ?_ | refine eq_u16 (by omega) ?_) | refine eq_of (by with_reducible assumption) ?_ | refine eqlx_of (by with_reducible assumption) ?_ | (with_reducible first | refine eq_rfl ?_ | refine ChkX.mk (by kernel_rfl) ?_ | refine code_d (by decide +kernel) ?_ | refine end_go rfl ?_) | refine cx_locS (by assumption) rfl (by omega) ?_ | refine dcx_locS (by assumption) rfl rfl ?_ | refine len_map ?_ | refine len_isl ?_ | refine el_of rfl rfl ?_ | refine del_own ?_ | refine del_own' rfl ?_ | refine as_go rfl ?_ | refine rd_go rfl ?_ | refine rg_end rfl ?_ | refine flat_ownX ?_ | refine EqLX.mk ?_ | ((with_reducible apply br_bq hQz) <;> (try intro hsp hQz)) | exact hQz.out)) <;> (try (conv => whnf))))) : p := h ⟨hq⟩
section
variable {x : Ac} {cs cs' ds ds' : List AV} {e e1 e2 c0 c1 c2 c3 c4 : Int} {h : Bool}
theorem eq5 : eqL [0, 0, 0, 0, 0] [.int .i64 c0, .int .i64 c1, .int .i64 c2, .int .i64 c3, .int .i64 c4] [.int .i64 c0, .int .i64 c1, .int .i64 c2, .int .i64 c3, .int .i64 c4] = some true := by simp [eqL, eq1]
theorem s_reserve (hk : x.w % 19 = 0 ∨ x.w % 19 = 1) (z : LocS 36 [.int .i64 x.p, .int .i64 x.n] cs (.int .i64 e) ds) (z' : LocS 54 [.int .i64 x.p, .int .i64 x.n] cs' (.int .i64 e) ds') : LocU x cs cs' ds ds' := by
  refine LocU.mk (loc_x hmix b23 rfl ?_) z.pc z'.pc z.pd z'.pd
  have pr := z.pr
  have pr' := z'.pr
  unfold c23 acA
  rcases hk with hk | hk
  · have hk : ((x.w : Nat) : Int).tmod 19 = 0 := tm19 hk
    (refine wuf ?_; repeat' (first | with_reducible refine And.intro ?_ ?_ | intro hsp))
    all_goals first | exact end_u (by first | rfl | (simp; done) | fail) rfl rfl z.pd z'.pd | exact absurd hsp (by simp)
  · have hk : ((x.w : Nat) : Int).tmod 19 = 1 := tm19 hk
    (refine wuf ?_; repeat' (first | with_reducible refine And.intro ?_ ?_ | intro hsp))
    all_goals first | exact end_u (by first | rfl | (simp; done) | fail) rfl rfl z.pd z'.pd | exact absurd hsp (by simp)
theorem s_release (hk : x.w % 19 = 2) (z : LocS 35 [.int .i64 x.p, .int .i64 x.n] cs (.int .i64 e) ds) (z' : LocS 55 [.int .i64 x.p, .int .i64 x.n] cs' (.int .i64 e) ds') : LocU x cs cs' ds ds' := by
  refine LocU.mk (loc_x hmix b23 rfl ?_) z.pc z'.pc z.pd z'.pd
  have pr := z.pr
  have pr' := z'.pr
  unfold c23 acA
  have hk : ((x.w : Nat) : Int).tmod 19 = 2 := tm19 hk
  (refine wuf ?_; repeat' (first | with_reducible refine And.intro ?_ ?_ | intro hsp))
  all_goals first | exact end_u (by first | rfl | (simp; done) | fail) rfl rfl z.pd z'.pd | exact absurd hsp (by simp)
theorem s_commit (hk : x.w % 19 = 3 ∨ x.w % 19 = 4 ∨ x.w % 19 = 5) (z : LocS 30 [.int .i64 x.p, .int .i64 x.n] cs (.int .i64 e) ds) (z' : LocS 56 [.int .i64 x.p, .int .i64 x.n] cs' (.int .i64 e) ds') : LocU x cs cs' ds ds' := by
  refine LocU.mk (loc_x hmix b23 rfl ?_) z.pc z'.pc z.pd z'.pd
  have pr := z.pr
  have pr' := z'.pr
  unfold c23 acA
  rcases hk with hk | hk | hk
  · have hk : ((x.w : Nat) : Int).tmod 19 = 3 := tm19 hk
    (refine wuf ?_; repeat' (first | with_reducible refine And.intro ?_ ?_ | intro hsp))
    all_goals first | exact end_u (by first | rfl | (simp; done) | fail) rfl rfl z.pd z'.pd | exact absurd hsp (by simp)
  · have hk : ((x.w : Nat) : Int).tmod 19 = 4 := tm19 hk
    (refine wuf ?_; repeat' (first | with_reducible refine And.intro ?_ ?_ | intro hsp))
    all_goals first | exact end_u (by first | rfl | (simp; done) | fail) rfl rfl z.pd z'.pd | exact absurd hsp (by simp)
  · have hk : ((x.w : Nat) : Int).tmod 19 = 5 := tm19 hk
    (refine wuf ?_; repeat' (first | with_reducible refine And.intro ?_ ?_ | intro hsp))
    all_goals first | exact end_u (by first | rfl | (simp; done) | fail) rfl rfl z.pd z'.pd | exact absurd hsp (by simp)
theorem s_decommit (hk : x.w % 19 = 6 ∨ x.w % 19 = 7) (z : LocS 29 [.int .i64 x.p, .int .i64 x.n] cs (.int .i64 e) ds) (z' : LocS 57 [.int .i64 x.p, .int .i64 x.n] cs' (.int .i64 e) ds') : LocU x cs cs' ds ds' := by
  refine LocU.mk (loc_x hmix b23 rfl ?_) z.pc z'.pc z.pd z'.pd
  have pr := z.pr
  have pr' := z'.pr
  unfold c23 acA
  rcases hk with hk | hk
  · have hk : ((x.w : Nat) : Int).tmod 19 = 6 := tm19 hk
    (refine wuf ?_; repeat' (first | with_reducible refine And.intro ?_ ?_ | intro hsp))
    all_goals first | exact end_u (by first | rfl | (simp; done) | fail) rfl rfl z.pd z'.pd | exact absurd hsp (by simp)
  · have hk : ((x.w : Nat) : Int).tmod 19 = 7 := tm19 hk
    (refine wuf ?_; repeat' (first | with_reducible refine And.intro ?_ ?_ | intro hsp))
    all_goals first | exact end_u (by first | rfl | (simp; done) | fail) rfl rfl z.pd z'.pd | exact absurd hsp (by simp)
theorem s_protect (hk : x.w % 19 = 8) (z : LocS 34 [.int .i64 x.p, .int .i64 x.n, .bool (decide (x.n.tmod 2 = 0))] cs (.int .i64 e) ds) (z' : LocS 58 [.int .i64 x.p, .int .i64 x.n, .bool (decide (x.n.tmod 2 = 0))] cs' (.int .i64 e) ds') : LocU x cs cs' ds ds' := by
  refine LocU.mk (loc_x hmix b23 rfl ?_) z.pc z'.pc z.pd z'.pd
  have pr := z.pr
  have pr' := z'.pr
  unfold c23 acA
  have hk : ((x.w : Nat) : Int).tmod 19 = 8 := tm19 hk
  (refine wuf ?_; repeat' (first | with_reducible refine And.intro ?_ ?_ | intro hsp))
  all_goals first | exact end_u (by first | rfl | (simp; done) | fail) rfl rfl z.pd z'.pd | exact absurd hsp (by simp)
theorem s_protectf (hk : x.w % 19 = 9) (z : LocS 34 [.int .i64 x.p, .int .i64 x.n, .bool false] cs (.int .i64 e) ds) (z' : LocS 58 [.int .i64 x.p, .int .i64 x.n, .bool false] cs' (.int .i64 e) ds') : LocU x cs cs' ds ds' := by
  refine LocU.mk (loc_x hmix b23 rfl ?_) z.pc z'.pc z.pd z'.pd
  have pr := z.pr
  have pr' := z'.pr
  unfold c23 acA
  have hk : ((x.w : Nat) : Int).tmod 19 = 9 := tm19 hk
  (refine wuf ?_; repeat' (first | with_reducible refine And.intro ?_ ?_ | intro hsp))
  all_goals first | exact end_u (by first | rfl | (simp; done) | fail) rfl rfl z.pd z'.pd | exact absurd hsp (by simp)
theorem s_join (hk : x.w % 19 = 10 ∨ x.w % 19 = 11) (z : LocS 51 [.int .i64 x.p] cs (.int .i64 e) ds) (z' : LocS 59 [.int .i64 x.p] cs' (.int .i64 e) ds') : LocU x cs cs' ds ds' := by
  refine LocU.mk (loc_x hmix b23 rfl ?_) z.pc z'.pc z.pd z'.pd
  have pr := z.pr
  have pr' := z'.pr
  unfold c23 acA
  rcases hk with hk | hk
  · have hk : ((x.w : Nat) : Int).tmod 19 = 10 := tm19 hk
    (refine wuf ?_; repeat' (first | with_reducible refine And.intro ?_ ?_ | intro hsp))
    all_goals first | exact end_u (by first | rfl | (simp; done) | fail) rfl rfl z.pd z'.pd | exact absurd hsp (by simp)
  · have hk : ((x.w : Nat) : Int).tmod 19 = 11 := tm19 hk
    (refine wuf ?_; repeat' (first | with_reducible refine And.intro ?_ ?_ | intro hsp))
    all_goals first | exact end_u (by first | rfl | (simp; done) | fail) rfl rfl z.pd z'.pd | exact absurd hsp (by simp)
theorem s_split (hk : x.w % 19 = 12) (z : LocS 33 [.int .i64 x.p] cs (.int .i64 e) ds) (z' : LocS 60 [.int .i64 x.p] cs' (.int .i64 e) ds') : LocU x cs cs' ds ds' := by
  refine LocU.mk (loc_x hmix b23 rfl ?_) z.pc z'.pc z.pd z'.pd
  have pr := z.pr
  have pr' := z'.pr
  unfold c23 acA
  have hk : ((x.w : Nat) : Int).tmod 19 = 12 := tm19 hk
  (refine wuf ?_; repeat' (first | with_reducible refine And.intro ?_ ?_ | intro hsp))
  all_goals first | exact end_u (by first | rfl | (simp; done) | fail) rfl rfl z.pd z'.pd | exact absurd hsp (by simp)
theorem s_write (hk : x.w % 19 = 13 ∨ x.w % 19 = 14) (z : LocS 28 [.int .i64 x.t, .int .u8 x.b] cs (.int .i64 e) ds) (z' : LocS 61 [.int .i64 x.t, .int .u8 x.b] cs' (.int .i64 e) ds') : LocU x cs cs' ds ds' := by
  refine LocU.mk (loc_x hmix b23 rfl ?_) z.pc z'.pc z.pd z'.pd
  have pr := z.pr
  have pr' := z'.pr
  unfold c23 acA
  rcases hk with hk | hk
  · have hk : ((x.w : Nat) : Int).tmod 19 = 13 := tm19 hk
    (refine wuf ?_; repeat' (first | with_reducible refine And.intro ?_ ?_ | intro hsp))
    all_goals first | exact end_u (by first | rfl | (simp; done) | fail) rfl rfl z.pd z'.pd | exact absurd hsp (by simp)
  · have hk : ((x.w : Nat) : Int).tmod 19 = 14 := tm19 hk
    (refine wuf ?_; repeat' (first | with_reducible refine And.intro ?_ ?_ | intro hsp))
    all_goals first | exact end_u (by first | rfl | (simp; done) | fail) rfl rfl z.pd z'.pd | exact absurd hsp (by simp)
theorem s_plan (hk : x.w % 19 = 18) (z : LocS 26 [.agg [.isl (x.l.map rlA)]] cs (.int .i64 e) ds) (z' : LocS 65 [.agg [.isl (x.l.map rlA)]] cs' (.int .i64 e) ds') : LocU x cs cs' ds ds' := by
  refine LocU.mk (loc_x hmix b23 rfl ?_) z.pc z'.pc z.pd z'.pd
  have pr := z.pr
  have pr' := z'.pr
  unfold c23 acA
  have hk : ((x.w : Nat) : Int).tmod 19 = 18 := tm19 hk
  (refine wuf ?_; repeat' (first | with_reducible refine And.intro ?_ ?_ | intro hsp))
  all_goals first | exact end_u (by first | rfl | (simp; done) | fail) rfl rfl z.pd z'.pd | exact absurd hsp (by simp)
theorem s_read (hk : x.w % 19 = 15) (z : LocS 16 [.int .i64 x.t] cs (.tup [.int .u8 e1, .int .i64 e]) cs) (z' : LocS 62 [.int .i64 x.t] cs' (.tup [.int .u8 e1, .int .i64 e]) cs') : LocU x cs cs' cs cs' := by
  refine LocU.mk (loc_x hmix b23 rfl ?_) z.pc z'.pc z.pd z'.pd
  have pr := z.pr
  have pr' := z'.pr
  unfold c23 acA
  have hk : ((x.w : Nat) : Int).tmod 19 = 15 := tm19 hk
  (refine wuf ?_; repeat' (first | with_reducible refine And.intro ?_ ?_ | intro hsp))
  all_goals first | exact end_u (by first | rfl | (simp; done) | fail) rfl rfl z.pd z'.pd | exact absurd hsp (by simp)
theorem s_kind (hk : x.w % 19 = 16) (z : LocS 17 [.int .i64 x.p] cs (.tup [.int .i64 e1, .bool h, .int .i64 e]) cs) (z' : LocS 63 [.int .i64 x.p] cs' (.tup [.int .i64 e1, .bool h, .int .i64 e]) cs') (y : LocS 18 [] cs (.tup [.agg [.int .i64 c0, .int .i64 c1, .int .i64 c2, .int .i64 c3, .int .i64 c4], .int .i64 0]) cs) (y' : LocS 64 [] cs' (.agg [.int .i64 c0, .int .i64 c1, .int .i64 c2, .int .i64 c3, .int .i64 c4]) cs') : LocU x cs cs' cs cs' := by
  refine LocU.mk (loc_x hmix b23 rfl ?_) z.pc z'.pc z.pd z'.pd
  have pr := z.pr
  have pr' := z'.pr
  have he := eq5 (c0 := c0) (c1 := c1) (c2 := c2) (c3 := c3) (c4 := c4)
  unfold c23 acA
  have hk : ((x.w : Nat) : Int).tmod 19 = 16 := tm19 hk
  (refine wuf ?_; repeat' (first | with_reducible refine And.intro ?_ ?_ | intro hsp))
  all_goals first | exact end_u (by first | rfl | (simp; done) | fail) rfl rfl z.pd z'.pd | exact absurd hsp (by simp)
end
end Go.Proofs.Ytjlbfijjfjogiaa
namespace Go.Pol
open Go.Am
/-- What a call does, and its error. -/
def Sy.call (s : Sy) (x : Ac) : Int × Sy :=
  if x.w % 19 = 0 ∨ x.w % 19 = 1 then s.chg x.p x.n 0 1 0 else if x.w % 19 = 2 then s.chg x.p x.n 1 0 1 else
  if x.w % 19 = 3 ∨ x.w % 19 = 4 ∨ x.w % 19 = 5 then s.chg x.p x.n 1 2 2 else if x.w % 19 = 6 ∨ x.w % 19 = 7 then s.chg x.p x.n 2 1 3 else
  if x.w % 19 = 8 ∨ x.w % 19 = 9 then (if decide (x.n.tmod 2 = 0) = true then s.chg x.p x.n 1 3 4 else s.chg x.p x.n 3 1 4) else
  if x.w % 19 = 10 ∨ x.w % 19 = 11 then s.join x.p else if x.w % 19 = 12 then s.split x.p else
  if x.w % 19 = 13 ∨ x.w % 19 = 14 ∨ x.w % 19 = 15 then s.write x.t x.b else s.plan x.l
/-- What a step leaves (no step saves and loads here). -/
def Sy.step (s : Sy) (x : Ac) : Sy :=
  if x.w % 19 = 9 then (s.chg x.p x.n 3 1 4).2 else if x.w % 19 = 15 ∨ x.w % 19 = 16 then s else (s.call x).2
theorem good_call {s : Sy} {x : Ac} (h : GoodS s) : GoodS (s.call x).2 := by
  unfold Sy.call
  repeat' split
  all_goals first | exact good_chg h (by decide) | exact good_join h | exact good_split h | exact good_write h | exact good_plan h
theorem good_step {s : Sy} {x : Ac} (h : GoodS s) : GoodS (s.step x) := by
  unfold Sy.step
  repeat' split
  · exact good_chg h (by decide)
  · exact h
  · exact good_call h
theorem kind_ex (s : Sy) (a : Int) : ∃ k h e, s.kind a = [.int .i64 k, .bool h, .int .i64 e] := by
  unfold Sy.kind; split <;> exact ⟨_, _, _, rfl⟩
end Go.Pol
namespace Go.Proofs.Ytjlbfijjfjogiaa
open Go Go.Am Go.Pol
section
variable {s : Sy} {x : Ac}
theorem p_step (g : GoodS s) (x : Ac) (hw : x.w % 19 ≠ 17) : LocU x s.a s.b (s.step x).a (s.step x).b := by
  have h := Nat.mod_lt x.w (show 0 < 19 by decide)
  unfold Sy.step
  split
  · rename_i h9
    have z := p_protect (a := x.p) (n := x.n) g (b := false)
    have z' := q_protect (a := x.p) (n := x.n) g (b := false)
    exact s_protectf h9 z z'
  split
  · rename_i h9 h15
    rcases h15 with h15 | h16
    · exact s_read h15 p_read q_read
    · obtain ⟨k, m, e, hk⟩ := kind_ex s x.p
      have z := p_kind (s := s) (a := x.p)
      have z' := q_kind (s := s) (a := x.p)
      rw [hk] at z z'
      exact s_kind h16 z z' (p_counts g) (q_counts g)
  rename_i h9 h15
  unfold Sy.call
  split
  · exact s_reserve (by assumption) (p_reserve g) (q_reserve g)
  split
  · exact s_release (by assumption) (p_release g) (q_release g)
  split
  · exact s_commit (by assumption) (p_commit g) (q_commit g)
  split
  · exact s_decommit (by assumption) (p_decommit g) (q_decommit g)
  split
  · exact s_protect (by omega) (p_protect g) (q_protect g)
  split
  · exact s_join (by assumption) (p_join g) (q_join g)
  split
  · exact s_split (by assumption) (p_split g) (q_split g)
  split
  · exact s_write (by omega) p_write q_write
  · exact s_plan (by omega) (p_plan s x.l) (q_plan s x.l)
end
end Go.Proofs.Ytjlbfijjfjogiaa
