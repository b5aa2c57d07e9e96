/-
  Refusal states: plain; Clone, Start of both; what a rule refuses: next, refused of both.
-/
import Derived.Test.YtjlbfijjfjogiaaAmWt
import Derived.Test.YtjlbfijjfjogiaaRa
set_option linter.unusedSimpArgs false
set_option linter.unusedVariables false
namespace Go.Pol
open Go.Am
def updI (f : Nat → Int) (i : Nat) (v : Int) : Nat → Int := fun j => if j = i then v else f j
def z7 : List AV := [.int .i64 0, .int .i64 0, .int .i64 0, .int .i64 0, .int .i64 0, .int .i64 0, .int .i64 0]
def arr7 (C : Nat → Int) : List AV := [.int .i64 (C 0), .int .i64 (C 1), .int .i64 (C 2), .int .i64 (C 3), .int .i64 (C 4), .int .i64 (C 5), .int .i64 (C 6)]
/-- A state of refusals. -/
def stA (l : List Rl) (C H : Nat → Int) : List AV := [.isl (l.map rlA), .int .i64 (C 0), .int .i64 (C 1), .int .i64 (C 2), .int .i64 (C 3), .int .i64 (C 4), .int .i64 (C 5), .int .i64 (C 6), .int .i64 (H 0), .int .i64 (H 1), .int .i64 (H 2), .int .i64 (H 3), .int .i64 (H 4), .int .i64 (H 5), .int .i64 (H 6)]
section
variable {l : List Rl} {C H : Nat → Int} {k : Nat} {v : Int}
theorem lt7 {p : Nat → Prop} (h0 : p 0) (h1 : p 1) (h2 : p 2) (h3 : p 3) (h4 : p 4) (h5 : p 5) (h6 : p 6) : k < 7 → p k := fun h => by
  match k, h with
  | 0, _ => exact h0
  | 1, _ => exact h1
  | 2, _ => exact h2
  | 3, _ => exact h3
  | 4, _ => exact h4
  | 5, _ => exact h5
  | 6, _ => exact h6
theorem arr7_get : k < 7 → (arr7 C)[k]? = some (.int .i64 (C k)) := lt7 (p := fun k => (arr7 C)[k]? = some (.int .i64 (C k))) rfl rfl rfl rfl rfl rfl rfl
theorem st_getC : k < 7 → (stA l C H)[1 + k]? = some (.int .i64 (C k)) := lt7 (p := fun k => (stA l C H)[1 + k]? = some (.int .i64 (C k))) rfl rfl rfl rfl rfl rfl rfl
theorem st_getH : k < 7 → (stA l C H)[8 + k]? = some (.int .i64 (H k)) := lt7 (p := fun k => (stA l C H)[8 + k]? = some (.int .i64 (H k))) rfl rfl rfl rfl rfl rfl rfl
theorem st_setC : k < 7 → (stA l C H).set (1 + k) (.int .i64 v) = stA l (updI C k v) H := lt7 (p := fun k => (stA l C H).set (1 + k) (.int .i64 v) = stA l (updI C k v) H) rfl rfl rfl rfl rfl rfl rfl
theorem st_setH : k < 7 → (stA l C H).set (8 + k) (.int .i64 v) = stA l C (updI H k v) := lt7 (p := fun k => (stA l C H).set (8 + k) (.int .i64 v) = stA l C (updI H k v)) rfl rfl rfl rfl rfl rfl rfl
end
theorem stA_plain {l : List Rl} {C H : Nat → Int} : ∀ x ∈ stA l C H, Plain x := fun x hx => by
  simp only [stA, List.mem_cons, List.not_mem_nil, or_false] at hx
  rcases hx with rfl | hx
  · exact plain_rls
  · repeat' (rcases hx with rfl | hx <;> first | exact plain_int | skip)
theorem plain_st {l : List Rl} {C H : Nat → Int} : Plain (.agg (stA l C H)) := plain_agg stA_plain
theorem plain_stE {l : List Rl} {C H : Nat → Int} {r : Int} : Plain (.tup [.agg (stA l C H), .int .i64 r]) := plain_tup fun x hx => by
  simp only [List.mem_cons, List.not_mem_nil, or_false] at hx
  rcases hx with rfl | rfl
  · exact plain_st
  · exact plain_int
def zst : List AV := .nils :: (z7 ++ z7)
theorem plain_zst : Plain (.agg [.nils, .int .i64 0, .int .i64 0, .int .i64 0, .int .i64 0, .int .i64 0, .int .i64 0, .int .i64 0, .int .i64 0, .int .i64 0, .int .i64 0, .int .i64 0, .int .i64 0, .int .i64 0, .int .i64 0]) := plain_agg fun x hx => by
  simp only [List.mem_cons, List.not_mem_nil, or_false] at hx
  rcases hx with rfl | hx
  · exact plain_nils
  · repeat' (rcases hx with rfl | hx <;> first | exact plain_int | skip)
theorem plain_zstE {r : Int} : Plain (.tup [.agg [.nils, .int .i64 0, .int .i64 0, .int .i64 0, .int .i64 0, .int .i64 0, .int .i64 0, .int .i64 0, .int .i64 0, .int .i64 0, .int .i64 0, .int .i64 0, .int .i64 0, .int .i64 0, .int .i64 0], .int .i64 r]) := plain_tup fun x hx => by
  simp only [List.mem_cons, List.not_mem_nil, or_false] at hx
  rcases hx with rfl | rfl
  · exact plain_zst
  · exact plain_int
theorem all4 {l : List Rl} : ((l.map rlA).all fun e => e.length == 4) = true := by simp [rlA]
theorem src_rl {l : List (Nat × AObj)} {R : List Rl} : srcV (lk l) 4 (.isl (R.map rlA)) = some (flat rlA R, R.length, []) := by
  simp only [srcV]
  rw [if_pos all4, List.length_map]
  rfl
theorem appV_none {l : List (Nat × AObj)} {nx d bytes n : Nat} {cs : List AV} {L : List Rl} (hL : L.length = 0) (hd : lk l d = some (.cells cs)) (hc : n * 4 ≤ cs.length) : appV (lk l) nx 4 bytes (.sl d 0 n n 4) (.isl (L.map rlA)) = some (.sl d 0 n n 4, [(d, some (.cells cs))], [d]) := by
  obtain rfl := List.eq_nil_of_length_eq_zero hL
  simp only [appV, srcV, cellsAt, hd]
  simp [over, hc]
/-- Does a rule refuse a call? -/
def refB (r : Rl) (k n : Int) : Bool := decide (r.k = k ∧ r.f ≤ n ∧ ((r.e = 0 ∧ n = r.f) ∨ (r.e ≠ 0 ∧ r.f + (n - r.f) / r.e * r.e = n ∧ (r.t = 0 ∨ (n - r.f) / r.e < r.t))))
def refL (l : List Rl) (k n : Int) : Bool := l.any fun r => refB r k n
end Go.Pol
namespace Go.Proofs.Ytjlbfijjfjogiaa
open Go Go.Am Go.Pol
theorem wx_Rb {p q : Prop} (hq : q) (h : HidP q → p := by (intro hQz; ((repeat' ((try (conv => whnf)); first | (with_reducible first | refine run_cons ?_ | refine runq_cons ?_ | refine code_seq ?_ | refine code_reg ?_ | refine code_cond ?_ | refine run_nil ?_ | refine runq_nil ?_ | refine rund_op rfl ?_ | refine rund_nil ?_ | refine code_block ?_ | refine code_skip ?_ | refine code_exit ?_ | refine code_ret ?_ | refine code_range ?_ | refine rund_fast (by decide +kernel) ?_ | refine rund_slow (by decide +kernel) ?_ | refine br_tt ?_ | refine br_ff ?_ | refine br_n ?_ | refine br_and ?_ | refine br_or ?_ | refine br_t (by assumption) ?_ | refine br_f (by assumption) ?_ | refine eq_i64 (by omega) ?_ | refine el_tn ?_) | ((with_reducible refine br_dt ?_ ?_); focus omega) | ((with_reducible refine br_df ?_ ?_); focus omega) | ((with_reducible apply br_dq hQz) <;> (try intro hsp hQz)) | ((with_reducible refine ck_x ?_ ?_); focus (first | omega | rfl | assumption | decide | (simp only [List.length_map, List.length_cons, List.length_nil]; omega))) | (with_reducible first | refine eq_tn ?_ | refine eq_tn1 ?_ | refine eq_tn2 ?_ | refine eq_m1 ?_ | refine eq_m2 ?_ | refine eq_zm ?_ | refine eq_z ?_ | refine len_map ?_ | refine len_sl ?_ | refine len_nils ?_ | refine len_own' ?_ | refine len_isl ?_ | refine eq_u8 (by omega) ?_ | refine eq_u16 (by omega) ?_) | refine eqn_mapc ?_ | refine eqn_cons ?_ | refine eqn_sl ?_ | ((with_reducible apply eqn_q hQz) <;> (try intro hQz)) | ((with_reducible apply eqn_n hQz) <;> (try intro hQz)) | (with_reducible first | refine eq_rfl ?_ | refine ChkX.mk (by kernel_rfl) ?_ | refine code_q rfl ?_ | refine code_d (by decide +kernel) ?_ | refine end_go rfl ?_) | refine apps_some (appV_none h0 rfl (Nat.zero_le _)) ?_ | refine apps_some (appV_sl src_rl rfl rfl (by first | (simp; done) | fail) (by omega)) ?_ | refine len_map ?_ | refine len_isl ?_ | refine el_of rfl rfl ?_ | refine del_own ?_ | refine del_own' rfl ?_ | refine as_go rfl ?_ | refine rd_go rfl ?_ | refine rg_end rfl ?_ | refine flat_ownX ?_ | refine EqLX.mk ?_ | ((with_reducible apply br_bq hQz) <;> (try intro hsp hQz)) | exact hQz.out)) <;> (try (conv => whnf))))) : p := h ⟨hq⟩
theorem wk_frzR {σ : Nat → Nat} {h h' : Hp} {d n cp : Nat} {cs : List AV} {L : List Rl} (hn : L.length = n) (hi : lk h.l d = some (.cells cs)) (hc : cs = flat rlA L) (hi' : ∀ j o, lk h'.l j = some o → σ j ≠ d) (hs : SubH σ h h') : WkV Try.prog σ h h' (.sl d 0 n cp 4) (.isl (L.map rlA)) := by
  subst hc; rw [← hn]
  refine wk_frz hi hi' hs (by simp) (fun e he => ?_) ?_ fun e he x hx => ?_
  · obtain ⟨s, _, rfl⟩ := List.mem_map.1 he; rfl
  · rw [List.drop_zero, List.take_of_length_le (by rw [flat_len rl_len]; exact Nat.le_refl _)]; rfl
  · obtain ⟨s, _, rfl⟩ := List.mem_map.1 he; exact rlA_plain s x hx
theorem wk_nilR {σ : Nat → Nat} {h h' : Hp} {L : List Rl} (h0 : L.length = 0) : WkV Try.prog σ h h' .nils (.isl (L.map rlA)) := by
  obtain rfl := List.eq_nil_of_length_eq_zero h0; exact wk_nils
theorem flat_z {L : List Rl} (h : L.length = 0) : [] = flat rlA L := by rw [List.eq_nil_of_length_eq_zero h]; rfl
section
variable {l : List Rl}
theorem k_clone (hl : l.length ≤ 100000) : PureS 38 [.isl (l.map rlA)] (.isl (l.map rlA)) := by
  refine PureS.mk (pure_x hmix b38 plainG ⟨plain_rls, trivial⟩ plain_rls rfl ?_)
  unfold c38
  by_cases h0 : l.length = 0
  · (refine wx_Rb ?_; repeat' (first | with_reducible refine And.intro ?_ ?_ | intro hsp))
    · exact end_wk (wk_nilR h0)
    · exact end_wk (wk_frzR h0 rfl (flat_z h0) (fun j o hj => by cases hj) subH_nil)
  · obtain ⟨r, l, rfl⟩ := List.exists_cons_of_ne_nil (show l ≠ [] from fun e => h0 (by rw [e]; rfl))
    (refine wx_Rb ?_; repeat' (first | with_reducible refine And.intro ?_ ?_ | intro hsp))
    exact end_wk (wk_frzR (by omega) rfl rfl (fun j o hj => by cases hj) subH_nil)
theorem k_start_no {i e : Int} (hc : chkP l = (i, e)) (he : e ≠ 0) : PureS 52 [.agg [.isl (l.map rlA)]] (.tup [.agg [.nils, .int .i64 0, .int .i64 0, .int .i64 0, .int .i64 0, .int .i64 0, .int .i64 0, .int .i64 0, .int .i64 0, .int .i64 0, .int .i64 0, .int .i64 0, .int .i64 0, .int .i64 0, .int .i64 0], .int .i64 e]) := by
  have z := k_chk l
  rw [hc] at z
  refine PureS.mk (pure_x hmix b52 plainG ⟨plain_pl, trivial⟩ plain_zstE rfl ?_)
  unfold c52
  (refine wx ?_; repeat' (first | with_reducible refine And.intro ?_ ?_ | intro hsp))
  all_goals exact end_plain rfl plain_zstE
theorem k_start {i : Int} (hc : chkP l = (i, 0)) (hl : l.length ≤ 100000) : PureS 52 [.agg [.isl (l.map rlA)]] (.tup [.agg (stA l (fun _ => 0) fun _ => 0), .int .i64 0]) := by
  have z := k_chk l
  rw [hc] at z
  have z2 := k_clone hl
  refine PureS.mk (pure_x hmix b52 plainG ⟨plain_pl, trivial⟩ plain_stE rfl ?_)
  unfold c52
  (refine wx ?_; repeat' (first | with_reducible refine And.intro ?_ ?_ | intro hsp))
  all_goals exact end_plain rfl plain_stE
theorem r_start_no {i e : Int} (hc : chkP l = (i, e)) (he : e ≠ 0) : PureS 53 [.agg [.isl (l.map rlA)]] (.tup [.agg [.nils, .int .i64 0, .int .i64 0, .int .i64 0, .int .i64 0, .int .i64 0, .int .i64 0, .int .i64 0, .int .i64 0, .int .i64 0, .int .i64 0, .int .i64 0, .int .i64 0, .int .i64 0, .int .i64 0], .int .i64 e]) := by
  have z := r_chk l
  rw [hc] at z
  refine PureS.mk (pure_x hmix b53 plainG ⟨plain_pl, trivial⟩ plain_zstE rfl ?_)
  unfold c53
  (refine wx ?_; repeat' (first | with_reducible refine And.intro ?_ ?_ | intro hsp))
  all_goals exact end_plain rfl plain_zstE
theorem r_start {i : Int} (hc : chkP l = (i, 0)) : PureS 53 [.agg [.isl (l.map rlA)]] (.tup [.agg (stA l (fun _ => 0) fun _ => 0), .int .i64 0]) := by
  have z := r_chk l
  rw [hc] at z
  refine PureS.mk (pure_x hmix b53 plainG ⟨plain_pl, trivial⟩ plain_stE rfl ?_)
  unfold c53
  (refine wx ?_; repeat' (first | with_reducible refine And.intro ?_ ?_ | intro hsp))
  all_goals exact end_plain rfl plain_stE
theorem rl_ok {r : Rl} (h : rlErr r = 0) : (0 ≤ r.k ∧ r.k < 7) ∧ (1 ≤ r.f ∧ r.f ≤ 10000 ∧ 0 ≤ r.e ∧ r.e ≤ 12 ∧ 0 ≤ r.t ∧ r.t ≤ 1000) ∧ (r.e = 0 → r.t = 1) := by
  unfold rlErr at h
  split at h
  · omega
  · split at h
    · omega
    · split at h
      · omega
      · unfold badK badR badF at *
        refine ⟨by omega, by omega, fun e => Classical.byContradiction fun h2 => ?_⟩
        rename_i h3
        exact h3 ⟨e, h2⟩
/-- The document's: does a rule refuse a call? -/
theorem r_refuses (r : Rl) (k n : Int) (hr : rlErr r = 0) (hn : -1000000 ≤ n ∧ n ≤ 1000001) : PureS 87 [.agg [.int .i64 r.k, .int .i64 r.f, .int .i64 r.e, .int .i64 r.t], .int .i64 k, .int .i64 n] (.bool (refB r k n)) := by
  obtain ⟨h1, h2, h3⟩ := rl_ok hr
  refine PureS.mk (pure_x hmix b87 plainG ⟨plain_rl, plain_int, plain_int, trivial⟩ plain_bool rfl ?_)
  unfold c87
  by_cases hc : r.k = k ∧ r.f ≤ n
  · obtain ⟨hc1, hc2⟩ := hc
    by_cases he : r.e = 0
    · (refine wx ?_; repeat' (first | with_reducible refine And.intro ?_ ?_ | intro hsp))
      all_goals exact end_plain (congrArg AV.bool (by unfold refB; apply Bool.eq_iff_iff.2; simp [hc1, hc2, he])) plain_bool
    · have ht : Int.tdiv (n - r.f) r.e = (n - r.f) / r.e := Int.tdiv_eq_ediv_of_nonneg (by omega)
      have q0 : 0 ≤ (n - r.f) / r.e := Int.ediv_nonneg (by omega) (by omega)
      have q1 : (n - r.f) / r.e * r.e ≤ n - r.f := Int.ediv_mul_le _ he
      have q2 : (n - r.f) / r.e ≤ (n - r.f) / r.e * r.e := by
        have := Int.mul_le_mul_of_nonneg_left (show 1 ≤ r.e by omega) q0
        omega
      generalize hq : (n - r.f) / r.e = q at *
      have hw : IntKind.i64.wrap ((n - r.f).tdiv r.e) = q := by rw [ht]; exact IntWalk.i64_in _ ⟨by omega, by omega⟩
      clear ht
      (refine wx ?_; repeat' (first | with_reducible refine And.intro ?_ ?_ | intro hsp))
      all_goals exact end_plain (congrArg AV.bool (by unfold refB; rw [hq]; first | exact (decide_eq_true (by omega)).symm | exact (decide_eq_false (by omega)).symm | exact decide_eq_decide.2 (by omega))) plain_bool
  · (refine wx ?_; repeat' (first | with_reducible refine And.intro ?_ ?_ | intro hsp))
    all_goals first | (exfalso; omega) | exact end_plain (congrArg AV.bool (by unfold refB; exact (decide_eq_false fun h => hc ⟨h.1, h.2.1⟩).symm)) plain_bool
end
end Go.Proofs.Ytjlbfijjfjogiaa
