/-
  VmpageKeeps.
-/
import Derived.Test.YtjlbfijjfjogiaaUi
import Derived.Test.YtjlbfijjfjogiaaTj
import Derived.Test.YtjlbfijjfjogiaaAmEig
set_option linter.unusedSimpArgs false
set_option linter.unusedVariables false
namespace Go.Pol
open Go.Am
theorem chg_60 {s : Sy} {a n v w : Int} {k : Nat} : ((s.chg a n v w k).1 = 0 ∨ (s.chg a n v w k).2 = s) ∨ (s.chg a n v w k).1 = 60 ∧ (s.chg a n v w k).2 = s.ref k := by
  unfold Sy.chg
  split
  · exact .inl (.inr rfl)
  split
  · split
    · exact .inr ⟨rfl, rfl⟩
    · exact .inl (.inl rfl)
  · exact .inl (.inr rfl)
theorem join_60 {s : Sy} {a : Int} : ((s.join a).1 = 0 ∨ (s.join a).2 = s) ∨ (s.join a).1 = 60 ∧ (s.join a).2 = s.ref 5 := by
  unfold Sy.join
  split
  · split
    · exact .inl (.inr rfl)
    · split
      · split
        · exact .inr ⟨rfl, rfl⟩
        · exact .inl (.inl rfl)
      · exact .inl (.inr rfl)
  · exact .inl (.inr rfl)
theorem split_60 {s : Sy} {a : Int} : ((s.split a).1 = 0 ∨ (s.split a).2 = s) ∨ (s.split a).1 = 60 ∧ (s.split a).2 = s.ref 6 := by
  unfold Sy.split
  split
  · split
    · split
      · exact .inr ⟨rfl, rfl⟩
      · exact .inl (.inl rfl)
    · exact .inl (.inr rfl)
  · exact .inl (.inr rfl)
theorem write_60 {s : Sy} {a b : Int} : (s.write a b).1 = 0 ∨ (s.write a b).2 = s := by
  unfold Sy.write
  split
  · exact .inr rfl
  split
  · exact .inl rfl
  · exact .inr rfl
theorem plan_60 {s : Sy} {l : List Rl} : (s.plan l).1 = 0 ∨ (s.plan l).2 = s := by
  unfold Sy.plan
  split
  · exact .inl rfl
  · exact .inr rfl
theorem call_60 (s : Sy) (x : Ac) : ((s.call x).1 = 0 ∨ (s.call x).2 = s) ∨ (s.call x).1 = 60 ∧ ∃ k, (s.call x).2 = s.ref k := by
  unfold Sy.call
  repeat' split
  all_goals first
    | exact chg_60.imp_right fun h => ⟨h.1, _, h.2⟩
    | exact join_60.imp_right fun h => ⟨h.1, _, h.2⟩
    | exact split_60.imp_right fun h => ⟨h.1, _, h.2⟩
    | exact .inl write_60
    | exact .inl plan_60
theorem src_ac {l : List (Nat × AObj)} {R : List Ac} : srcV (lk l) 6 (.isl (R.map acA)) = some (flat acA R, R.length, []) := by
  simp only [srcV]
  rw [if_pos (by simp [acA]), List.length_map]
  rfl
theorem appV_none6 {l : List (Nat × AObj)} {nx d bytes n : Nat} {cs : List AV} {L : List Ac} (hL : L.length = 0) (hd : lk l d = some (.cells cs)) (hc : n * 6 ≤ cs.length) : appV (lk l) nx 6 bytes (.sl d 0 n n 6) (.isl (L.map acA)) = some (.sl d 0 n n 6, [(d, some (.cells cs))], [d]) := by
  obtain rfl := List.eq_nil_of_length_eq_zero hL
  simp only [appV, srcV, cellsAt, hd]
  simp [over, hc]
end Go.Pol
namespace Go.Proofs.Ytjlbfijjfjogiaa
open Go Go.Am Go.Pol
section
variable {p : List Rl} {l : List Ac} {x : Ac}
theorem cx_long {d n cp nx : Nat} {cs : List AV} {L : List Ac} {b : Bool} {hl : List (Nat × AObj)} {K : AV → Hp → Prop} (zl : PureS 20 [.agg [.isl (p.map rlA)], .isl (L.map acA)] (.bool b)) (hcs : lk hl d = some (.cells cs)) (hc : cs = flat acA L) (hn : n = L.length) (hk : K (.bool b) ⟨hl, nx⟩) :
    CallX Try.prog G0 (.fn 20 [] []) [.agg [.isl (p.map rlA)], .sl d 0 n cp 6] ⟨hl, nx⟩ K :=
  cx_fnU (fnU_frzR [d] zl.out plainG ⟨frz_plain plain_pl, frz_row (f := acA) ac_len (fun c => plain_acl) (by simp) (by rw [hcs, hc]) hn, trivial⟩ scal_bool) hk
theorem wuk {p q : Prop} (hq : q) (h : HidP q → p := by (intro hQz; ((repeat' ((try (conv => whnf)); first | (with_reducible first | refine run_cons ?_ | refine runq_cons ?_ | refine code_seq ?_ | refine code_reg ?_ | refine code_cond ?_ | refine run_nil ?_ | refine runq_nil ?_ | refine rund_op rfl ?_ | refine rund_nil ?_ | refine code_block ?_ | refine code_skip ?_ | refine code_exit ?_ | refine code_ret ?_ | refine code_range ?_ | refine rund_fast (by decide +kernel) ?_ | refine rund_slow (by decide +kernel) ?_ | refine br_tt ?_ | refine br_ff ?_ | refine br_n ?_ | refine br_and ?_ | refine br_or ?_ | refine br_t (by assumption) ?_ | refine br_f (by assumption) ?_ | refine eq_i64 (by omega) ?_ | refine el_tn ?_) | ((with_reducible refine br_dt ?_ ?_); focus omega) | ((with_reducible refine br_df ?_ ?_); focus omega) | ((with_reducible apply br_dq hQz) <;> (try intro hsp hQz)) | ((with_reducible refine ck_x ?_ ?_); focus (first | omega | rfl | assumption | decide | (simp only [List.length_map, List.length_cons, List.length_nil]; omega))) | (with_reducible first | refine eq_tn ?_ | refine eq_tn1 ?_ | refine eq_tn2 ?_ | refine eq_m1 ?_ | refine eq_m2 ?_ | refine eq_zm ?_ | refine eq_z ?_ | refine len_map ?_ | refine len_sl ?_ | refine len_nils ?_ | refine len_own' ?_ | refine len_isl ?_ | refine eq_u8 (by omega) ?_ | refine eq_u16 (by omega) ?_) | refine eq_of (by with_reducible assumption) ?_ | refine eqlx_of (by with_reducible assumption) ?_ | refine app_some (appV_none6 (by first | assumption | fail) rfl (Nat.zero_le _)) ?_ | refine app_some (appV_sl src_ac rfl rfl (by omega) (by omega)) ?_ | refine app_some (appV_sl (src_of rfl rfl) rfl (by first | rfl | (simp [flat_len ac_len]; done) | fail) (by omega) (by omega)) ?_ | (with_reducible first | refine eq_rfl ?_ | refine ChkX.mk (by kernel_rfl) ?_ | refine code_d (by decide +kernel) ?_ | refine end_go rfl ?_) | refine cx_locM (by assumption) ?_ | refine cx_locS (by assumption) rfl (by omega) ?_ | refine cx_long zl rfl (by first | (simp [flat, acA]; done) | fail) (by first | (simp; done) | fail) ?_ | refine cx_locS hC rfl (by omega) ?_ | refine cx_pureS (by assumption) ?_ | refine len_map ?_ | refine len_isl ?_ | refine el_of rfl rfl ?_ | refine del_own ?_ | refine del_own' rfl ?_ | refine as_go rfl ?_ | refine rd_go rfl ?_ | refine rg_end rfl ?_ | refine flat_ownX ?_ | refine EqLX.mk ?_ | ((with_reducible apply br_bq hQz) <;> (try intro hsp hQz)) | exact hQz.out)) <;> (try (conv => whnf))))) : p := h ⟨hq⟩
set_option maxHeartbeats 1600000 in
theorem k_keeps : PureS 6 [.agg [.isl (p.map rlA)], .isl (l.map acA), .agg (acA x)] (.bool true) := by
  have zs := k_shown
  refine PureS.mk (pure_x hmix b6 plainG ⟨plain_pl, plain_acs, plain_ac, trivial⟩ plain_bool rfl ?_)
  unfold c6
  by_cases h30 : 30 < l.length
  · (refine wuk ?_; repeat' (first | with_reducible refine And.intro ?_ ?_ | intro hsp))
    all_goals first | exact end_bool rfl | (exfalso; omega)
  have ex : AV.agg (acA x) = .agg [.int .u8 (x.w : Nat), .int .i64 x.p, .int .i64 x.n, .int .i64 x.t, .int .u8 x.b, .isl (x.l.map rlA)] := rfl
  rw [ex]
  obtain ⟨b, zl⟩ := long_ex p (l := l ++ [x]) (by simp; omega)
  cases b with
  | true =>
    by_cases hl0 : l.length = 0
    · obtain rfl := List.eq_nil_of_length_eq_zero hl0
      (refine wuk ?_; repeat' (first | with_reducible refine And.intro ?_ ?_ | intro hsp))
      all_goals first | exact end_bool rfl | (exfalso; omega) | trace_state
    · (refine wuk ?_; repeat' (first | with_reducible refine And.intro ?_ ?_ | intro hsp))
      all_goals first | exact end_bool rfl | (exfalso; omega) | trace_state
  | false =>
  rcases made_ex p (l := l) (by omega) with zm | ⟨s, hg, zm⟩
  · by_cases hl0 : l.length = 0
    · obtain rfl := List.eq_nil_of_length_eq_zero hl0
      (refine wuk ?_; repeat' (first | with_reducible refine And.intro ?_ ?_ | intro hsp))
      all_goals first | exact end_bool rfl | (exfalso; omega)
    · (refine wuk ?_; repeat' (first | with_reducible refine And.intro ?_ ?_ | intro hsp))
      all_goals first | exact end_bool rfl | (exfalso; omega)
  have z1 := p_save hg
  have hC := p_call hg x
  have hg2 := good_call (x := x) hg
  have z2 := p_save hg2
  have zq := r_same (x := s.save) (y := s.save) (Nat.le_trans runs_len (by decide)) (Nat.le_trans huge_len (by decide)) (Nat.le_trans data_len (by decide)) (by have := (chkS_ok hg.hv).2.1; show s.l.length ≤ _; omega) (b := true) ⟨fun _ => sameV_rfl, fun _ => rfl⟩
  rcases call_60 s x with (h | h) | ⟨h, k, hk⟩
  · rw [h] at hC
    generalize (s.call x).2 = t at *
    simp only [Sy.save, vsA, stA] at z1 z2
    by_cases hl0 : l.length = 0
    · obtain rfl := List.eq_nil_of_length_eq_zero hl0
      (refine wuk ?_; repeat' (first | with_reducible refine And.intro ?_ ?_ | intro hsp))
      all_goals first | exact end_bool rfl | (exfalso; omega)
    · (refine wuk ?_; repeat' (first | with_reducible refine And.intro ?_ ?_ | intro hsp))
      all_goals first | exact end_bool rfl | (exfalso; omega)
  · rw [h] at hC
    generalize (s.call x).1 = e at *
    simp only [Sy.save, vsA, stA] at z1 zq
    by_cases hl0 : l.length = 0
    · obtain rfl := List.eq_nil_of_length_eq_zero hl0
      (refine wuk ?_; repeat' (first | with_reducible refine And.intro ?_ ?_ | intro hsp))
      all_goals first | exact end_bool rfl | (exfalso; omega)
    · (refine wuk ?_; repeat' (first | with_reducible refine And.intro ?_ ?_ | intro hsp))
      all_goals first | exact end_bool rfl | (exfalso; omega)
  · rw [h] at hC
    rw [hk] at hC z2
    unfold Sy.ref at hC z2
    simp only [Sy.save, vsA, stA] at z1 z2 zq
    by_cases hl0 : l.length = 0
    · obtain rfl := List.eq_nil_of_length_eq_zero hl0
      (refine wuk ?_; repeat' (first | with_reducible refine And.intro ?_ ?_ | intro hsp))
      all_goals first | exact end_bool rfl | (exfalso; omega)
    · (refine wuk ?_; repeat' (first | with_reducible refine And.intro ?_ ?_ | intro hsp))
      all_goals first | exact end_bool rfl | (exfalso; omega)
end
end Go.Proofs.Ytjlbfijjfjogiaa
