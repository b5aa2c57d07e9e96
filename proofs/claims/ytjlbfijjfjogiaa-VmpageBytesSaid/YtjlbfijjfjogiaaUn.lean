/-
  VmpageBytes.
-/
import Derived.Test.YtjlbfijjfjogiaaUm
import Derived.Test.YtjlbfijjfjogiaaUj
set_option linter.unusedSimpArgs false
set_option linter.unusedVariables false
namespace Go.Pol
open Go.Am
theorem chg_oneB {s : Sy} {p : Nat} {v w : Int} {k : Nat} (hl : s.l = []) (hp : p < 1024) (hv : s.K p = v) (hm : s.M p = false) : ∃ s', s.chg (p : Nat) 1 v w k = (0, s') ∧ s'.l = [] ∧ s'.K p = w ∧ s'.G = s.G ∧ s'.B p = fun _ => 0 := by
  obtain ⟨s', h1, h2, h3, h4, h5⟩ := chg_one (w := w) (k := k) hl hp hv hm
  refine ⟨s', h1, h2, h3, h5, ?_⟩
  have h6 : s.chg (p : Nat) 1 v w k = (0, { s.ref k with K := setR s.K p 1 w, B := setP s.B p 1 }) := by
    unfold Sy.chg
    rw [if_neg (by omega), Int.toNat_natCast, show (1 : Int).toNat = 1 from rfl, if_pos, hl, isR_nil]
    · rfl
    · intro i hi
      obtain rfl : i = 0 := by omega
      exact ⟨hv, hm⟩
  rw [h6] at h1
  obtain rfl := (Prod.mk.inj h1).2
  show setP s.B p 1 p = _
  unfold setP; rw [if_pos (by omega)]
theorem read_in {s : Sy} {j : Nat} (h : j < 65536) : s.read (j : Nat) = if s.K (j / 64) = 2 then (s.B (j / 64) (j % 64), 0) else (0, 61) := by
  unfold Sy.read
  rw [if_neg (by omega), Int.toNat_natCast]
theorem write_in {s : Sy} {j : Nat} {b : Int} (h : j < 65536) : s.write (j : Nat) b = if s.K (j / 64) = 2 then (0, { s with B := updP s.B (j / 64) (updI (s.B (j / 64)) (j % 64) b) }) else (61, s) := by
  unfold Sy.write
  rw [if_neg (by omega), Int.toNat_natCast]
theorem write_other {s : Sy} {a j : Nat} {b : Int} (ha : a < 65536) (hj : j < 65536) (hne : j ≠ a) : (s.write (a : Nat) b).2.read (j : Nat) = s.read (j : Nat) := by
  rw [write_in ha, read_in (s := s) hj]
  by_cases h : s.K (a / 64) = 2
  · rw [if_pos h, read_in hj]
    dsimp only
    by_cases h2 : s.K (j / 64) = 2
    · rw [if_pos h2, if_pos h2]
      unfold updP
      by_cases e : j / 64 = a / 64
      · rw [if_pos e]
        unfold updI
        rw [if_neg (by omega), e]
      · rw [if_neg e]
    · rw [if_neg h2, if_neg h2]
  · rw [if_neg h, read_in hj]
theorem write_self {s : Sy} {a : Nat} {b : Int} (ha : a < 65536) : (s.K (a / 64) = 2 ∧ (s.write (a : Nat) b).1 = 0 ∧ (s.read (a : Nat)).2 = 0 ∧ (s.write (a : Nat) b).2.read (a : Nat) = (b, 0)) ∨ ((s.write (a : Nat) b).1 = 61 ∧ (s.read (a : Nat)).2 = 61 ∧ (s.write (a : Nat) b).2 = s) := by
  rw [write_in ha, read_in ha]
  by_cases h : s.K (a / 64) = 2
  · rw [if_pos h, if_pos h]
    refine .inl ⟨h, rfl, rfl, ?_⟩
    rw [read_in ha]
    dsimp only
    rw [if_pos h]
    unfold updP updI
    rw [if_pos rfl, if_pos rfl]
  · rw [if_neg h, if_neg h]
    exact .inr ⟨rfl, rfl, rfl⟩
theorem write_l {s : Sy} {a b : Int} : (s.write a b).2.l = s.l := by
  unfold Sy.write
  split
  · rfl
  · split <;> rfl
theorem bL_nth {s : Sy} {f n i : Nat} (h : i < n) : nth 0 (bL s f n) i = (s.read ((f + i : Nat) : Int)).1 := by
  unfold bL nth; simp [h]
theorem fL_nth {s : Sy} {f n i : Nat} (h : i < n) : nth false (fL s f n) i = !decide ((s.read ((f + i : Nat) : Int)).2 = 0) := by
  unfold fL nth; simp [h]
theorem bL_0 {v : Sy} {q : Nat} (hq : q < 1024) (h : v.K q = 2) (hb : v.B q = fun _ => 0) : bL v (q * 64) 64 = List.replicate 64 0 := by
  unfold bL
  refine List.ext_getElem (by simp) fun i h1 h2 => ?_
  simp only [List.length_map, List.length_range] at h1
  simp only [List.getElem_map, List.getElem_range, List.getElem_replicate]
  rw [read_in (by omega), show (q * 64 + i) / 64 = q by omega, if_pos h, hb]
theorem fL_0 {v : Sy} {q : Nat} (hq : q < 1024) (h : v.K q = 2) : fL v (q * 64) 64 = List.replicate 64 false := by
  unfold fL
  refine List.ext_getElem (by simp) fun i h1 h2 => ?_
  simp only [List.length_map, List.length_range] at h1
  simp only [List.getElem_map, List.getElem_range, List.getElem_replicate]
  rw [read_in (by omega), show (q * 64 + i) / 64 = q by omega, if_pos h]; rfl
theorem nth_rep {α : Type} {d x : α} {n i : Nat} (h : i < n) : nth d (List.replicate n x) i = x := by
  unfold nth; simp [h]
end Go.Pol
namespace Go.Proofs.Ytjlbfijjfjogiaa
open Go Go.Am Go.Pol
section
variable {l : List Ac} {at_ b : Int}
theorem wkx_Un {p : Prop} (h : p := by (refine weak_s (by exact oneOf_of rfl) (by exact subH_of rfl) (by intro hs; (repeat' ((try (conv => whnf)); first | with_reducible exact True.intro | with_reducible refine And.intro ?_ ?_ | (with_reducible refine WkX.mk ?_; first | exact wk_undef | exact wk_int (by first | rfl | omega | (dsimp only; omega)) | exact wk_bool rfl | exact wk_ptr rfl (by first | decide | simp | omega) | exact wk_sl rfl (by first | decide | simp | omega) (by first | rfl | omega | simp) (by first | omega | simp) (by first | omega | simp) | exact wk_own rfl (by first | decide | simp | omega) | exact wk_nil0 (by first | rfl | simp) | exact wk_slown rfl (by first | decide | omega | (simp; done)) (by first | omega | (simp; done)) (by first | rfl | omega | (simp; done) | (simp; omega)) | exact wk_plain hs (by (first | assumption | exact plain_int | exact plain_bool | exact plain_undef | exact plain_nils | exact plain_nilp | exact plain_nilf | exact plain_str | with_reducible apply plain_rl | with_reducible apply plain_rls | with_reducible apply plain_pl | with_reducible apply plain_ii | with_reducible apply plain_st | with_reducible apply plain_stE | with_reducible apply plain_ac | with_reducible apply plain_acs | with_reducible apply plain_isls rlA_plain | with_reducible apply plain_isls inU_plain | with_reducible apply plain_isls blA_plain)) | (with_reducible refine wk_fn ?_ ?_ <;> repeat' (first | with_reducible exact wkl_nil | with_reducible refine wkl_cons ?_ ?_ | exact wk_ptr rfl (by first | decide | simp | omega))) | (with_reducible refine wk_agg ?_; repeat' (first | with_reducible exact wkl_nil | with_reducible refine wkl_cons ?_ ?_ | exact wk_int (by first | rfl | omega | (dsimp only; omega)) | exact wk_bool rfl)) | exact wk_yld rfl (by first | decide | simp | omega))))) (by intro hs; (try dsimp only); (repeat' (first | with_reducible exact wko_nil | refine wko_plain hs (by first | decide | omega | simp) rfl (by first | rfl) (by (first | with_reducible assumption | with_reducible apply rlA_plain _ | with_reducible apply plain_flat rlA_plain | with_reducible apply stA_plain | with_reducible apply memT_plain | with_reducible apply b_plain | with_reducible apply a_plain | with_reducible apply plain_acl | with_reducible apply plain_5 | with_reducible apply plain_4 | with_reducible apply plain_map (fun _ => plain_int) | with_reducible apply plain_map (fun _ => plain_bool) | ((repeat' (first | exact plain_all0 | refine plain_all2 ?_ ?_ | exact plain_int | first | assumption | exact plain_int | exact plain_bool | exact plain_undef | exact plain_nils | exact plain_nilp | exact plain_nilf | exact plain_str | with_reducible apply plain_rl | with_reducible apply plain_rls | with_reducible apply plain_pl | with_reducible apply plain_ii | with_reducible apply plain_st | with_reducible apply plain_stE | with_reducible apply plain_ac | with_reducible apply plain_acs | with_reducible apply plain_isls rlA_plain | with_reducible apply plain_isls inU_plain | with_reducible apply plain_isls blA_plain)); done) | ((refine plain_app ?_ ?_) <;> (first | with_reducible assumption | with_reducible apply rlA_plain _ | with_reducible apply plain_flat rlA_plain | with_reducible apply stA_plain | with_reducible apply memT_plain | with_reducible apply b_plain | with_reducible apply a_plain | with_reducible apply plain_acl | with_reducible apply plain_5 | with_reducible apply plain_4 | with_reducible apply plain_map (fun _ => plain_int) | with_reducible apply plain_map (fun _ => plain_bool) | ((repeat' (first | exact plain_all0 | refine plain_all2 ?_ ?_ | exact plain_int | first | assumption | exact plain_int | exact plain_bool | exact plain_undef | exact plain_nils | exact plain_nilp | exact plain_nilf | exact plain_str | with_reducible apply plain_rl | with_reducible apply plain_rls | with_reducible apply plain_pl | with_reducible apply plain_ii | with_reducible apply plain_st | with_reducible apply plain_stE | with_reducible apply plain_ac | with_reducible apply plain_acs | with_reducible apply plain_isls rlA_plain | with_reducible apply plain_isls inU_plain | with_reducible apply plain_isls blA_plain)); done))))) ?_ | refine wko_cells (by first | decide | omega | simp) rfl (by repeat' (first | with_reducible exact wkl_nil | with_reducible refine wkl_cons ?_ ?_ | (first | exact wk_undef | exact wk_int (by first | rfl | omega | (dsimp only; omega)) | exact wk_bool rfl | exact wk_ptr rfl (by first | decide | simp | omega) | exact wk_sl rfl (by first | decide | simp | omega) (by first | rfl | omega | simp) (by first | omega | simp) (by first | omega | simp) | exact wk_own rfl (by first | decide | simp | omega) | exact wk_nil0 (by first | rfl | simp) | exact wk_slown rfl (by first | decide | omega | (simp; done)) (by first | omega | (simp; done)) (by first | rfl | omega | (simp; done) | (simp; omega)) | exact wk_plain hs (by (first | assumption | exact plain_int | exact plain_bool | exact plain_undef | exact plain_nils | exact plain_nilp | exact plain_nilf | exact plain_str | with_reducible apply plain_rl | with_reducible apply plain_rls | with_reducible apply plain_pl | with_reducible apply plain_ii | with_reducible apply plain_st | with_reducible apply plain_stE | with_reducible apply plain_ac | with_reducible apply plain_acs | with_reducible apply plain_isls rlA_plain | with_reducible apply plain_isls inU_plain | with_reducible apply plain_isls blA_plain)) | (with_reducible refine wk_fn ?_ ?_ <;> repeat' (first | with_reducible exact wkl_nil | with_reducible refine wkl_cons ?_ ?_ | exact wk_ptr rfl (by first | decide | simp | omega))) | (with_reducible refine wk_agg ?_; repeat' (first | with_reducible exact wkl_nil | with_reducible refine wkl_cons ?_ ?_ | exact wk_int (by first | rfl | omega | (dsimp only; omega)) | exact wk_bool rfl)) | exact wk_yld rfl (by first | decide | simp | omega)))) ?_ | refine wko_loop (by first | decide | omega | simp) rfl (by ((try subst hF); (try subst hF2); exact wkl_sd (wkf_sget (by (repeat' ((try (conv => whnf)); first | with_reducible exact True.intro | with_reducible refine And.intro ?_ ?_ | (with_reducible refine WkX.mk ?_; first | exact wk_undef | exact wk_int (by first | rfl | omega | (dsimp only; omega)) | exact wk_bool rfl | exact wk_ptr rfl (by first | decide | simp | omega) | exact wk_sl rfl (by first | decide | simp | omega) (by first | rfl | omega | simp) (by first | omega | simp) (by first | omega | simp) | exact wk_own rfl (by first | decide | simp | omega) | exact wk_nil0 (by first | rfl | simp) | exact wk_slown rfl (by first | decide | omega | (simp; done)) (by first | omega | (simp; done)) (by first | rfl | omega | (simp; done) | (simp; omega)) | exact wk_plain hs (by (first | assumption | exact plain_int | exact plain_bool | exact plain_undef | exact plain_nils | exact plain_nilp | exact plain_nilf | exact plain_str | with_reducible apply plain_rl | with_reducible apply plain_rls | with_reducible apply plain_pl | with_reducible apply plain_ii | with_reducible apply plain_st | with_reducible apply plain_stE | with_reducible apply plain_ac | with_reducible apply plain_acs | with_reducible apply plain_isls rlA_plain | with_reducible apply plain_isls inU_plain | with_reducible apply plain_isls blA_plain)) | (with_reducible refine wk_fn ?_ ?_ <;> repeat' (first | with_reducible exact wkl_nil | with_reducible refine wkl_cons ?_ ?_ | exact wk_ptr rfl (by first | decide | simp | omega))) | (with_reducible refine wk_agg ?_; repeat' (first | with_reducible exact wkl_nil | with_reducible refine wkl_cons ?_ ?_ | exact wk_int (by first | rfl | omega | (dsimp only; omega)) | exact wk_bool rfl)) | exact wk_yld rfl (by first | decide | simp | omega)))))))) ?_ | exact wko_nil))))) : p := h
theorem wun {p q : Prop} (hq : q) (h : HidP q → p := by (intro hQz; ((repeat' ((try (conv => whnf)); first | (with_reducible first | refine run_cons ?_ | refine runq_cons ?_ | refine code_seq ?_ | refine code_reg ?_ | refine code_cond ?_ | refine run_nil ?_ | refine runq_nil ?_ | refine rund_op rfl ?_ | refine rund_nil ?_ | refine code_block ?_ | refine code_skip ?_ | refine code_exit ?_ | refine code_ret ?_ | refine code_range ?_ | refine rund_fast (by decide +kernel) ?_ | refine rund_slow (by decide +kernel) ?_ | refine br_tt ?_ | refine br_ff ?_ | refine br_n ?_ | refine br_and ?_ | refine br_or ?_ | refine br_t (by assumption) ?_ | refine br_f (by assumption) ?_ | refine eq_i64 (by omega) ?_ | refine el_tn ?_) | ((with_reducible refine br_dt ?_ ?_); focus omega) | ((with_reducible refine br_df ?_ ?_); focus omega) | ((with_reducible apply br_dq hQz) <;> (try intro hsp hQz)) | ((with_reducible refine ck_x ?_ ?_); focus (first | omega | rfl | assumption | decide | (simp only [List.length_map, List.length_cons, List.length_nil]; omega))) | (with_reducible first | refine eq_tn ?_ | refine eq_tn1 ?_ | refine eq_tn2 ?_ | refine eq_m1 ?_ | refine eq_m2 ?_ | refine eq_zm ?_ | refine eq_z ?_ | refine len_map ?_ | refine len_sl ?_ | refine len_nils ?_ | refine len_own' ?_ | refine len_isl ?_ | refine eq_u8 (by omega) ?_ | refine eq_u16 (by omega) ?_) | refine eq_of (by with_reducible assumption) ?_ | refine el_row inU_len (by first | assumption | omega) (by with_reducible assumption) ?_ | refine el_row blA_len (by first | assumption | omega) (by with_reducible assumption) ?_ | (with_reducible first | refine eq_rfl ?_ | refine ChkX.mk (by kernel_rfl) ?_ | refine code_q rfl ?_ | refine code_d (by decide +kernel) ?_ | refine end_go rfl ?_) | refine cx_locM (by assumption) ?_ | refine cx_locS (by assumption) rfl (by omega) ?_ | refine cx_pureS (by assumption) ?_ | refine len_map ?_ | refine len_isl ?_ | refine el_of rfl rfl ?_ | refine del_own ?_ | refine del_own' rfl ?_ | refine as_go rfl ?_ | refine rd_go rfl ?_ | refine rg_end rfl ?_ | refine flat_ownX ?_ | refine EqLX.mk ?_ | ((with_reducible apply br_bq hQz) <;> (try intro hsp hQz)) | exact hQz.out)) <;> (try (conv => whnf))))) : p := h ⟨hq⟩
set_option maxHeartbeats 1600000 in
set_option maxRecDepth 20000 in
theorem k_bytes : PureS 7 [.isl (l.map acA), .int .i64 at_, .int .u8 b] (.bool true) := by
  have zs := k_shown
  refine PureS.mk (pure_x hmix b7 plainG ⟨plain_acs, plain_int, plain_int, trivial⟩ plain_bool rfl ?_)
  unfold c7
  by_cases h30 : 30 < l.length
  · (refine wun ?_; repeat' (first | with_reducible refine And.intro ?_ ?_ | intro hsp))
    all_goals first | exact end_bool rfl | (exfalso; omega)
  obtain ⟨lb, zl⟩ := long_nil (l := l) (by omega)
  cases lb with
  | true =>
    (refine wun ?_; repeat' (first | with_reducible refine And.intro ?_ ?_ | intro hsp))
    all_goals first | exact end_bool rfl | (exfalso; omega)
  | false =>
  obtain ⟨s, hg, zm⟩ := made_nil (l := l) (by omega)
  have zn := n_plan s
  have hgp := good_plan (l := []) hg
  obtain ⟨t, e, hl⟩ := plan_nil (s := s)
  rw [e] at zn hgp
  dsimp only at zn hgp
  clear e
  by_cases hat : at_ < 0 ∨ 65536 ≤ at_
  · (refine wun ?_; repeat' (first | with_reducible refine And.intro ?_ ?_ | intro hsp))
    all_goals first | exact end_bool rfl | (exfalso; omega)
  obtain ⟨a, rfl⟩ : ∃ a : Nat, at_ = (a : Nat) := ⟨at_.toNat, by omega⟩
  obtain ⟨q, hq⟩ : ∃ q, q = a / 64 := ⟨_, rfl⟩
  have hw := q64 (t := a) (by omega)
  rw [← hq] at hw
  obtain ⟨F, hF⟩ : ∃ F, F = (q - 1) * 64 := ⟨_, rfl⟩
  obtain ⟨N, hN⟩ : ∃ N, N = min (q + 2) 1024 * 64 - F := ⟨_, rfl⟩
  have zw := p_write (s := t) (a := (a : Nat)) (b := b)
  have hgw := good_write (a := (a : Nat)) (b := b) hgp
  have hlw : (t.write (a : Nat) b).2.l = [] := write_l.trans hl
  have hoth := fun j hj hne => write_other (s := t) (a := a) (j := j) (b := b) (by omega) hj hne
  have hself := write_self (s := t) (a := a) (b := b) (by omega)
  generalize (t.write (a : Nat) b).1 = e at *
  generalize (t.write (a : Nat) b).2 = u at *
  have zb1 := p_bytes (s := t) (f := F) (n := N) (by omega)
  have zb2 := p_bytes (s := u) (f := F) (n := N) (by omega)
  have eF : ((F : Nat) : Int) = max (((q : Nat) : Int) - 1) 0 * 64 := by omega
  have eT : ((F + N : Nat) : Int) = min (((q : Nat) : Int) + 2) 1024 * 64 := by omega
  rw [eF, eT] at zb1 zb2
  have hb1 : F ≤ a ∧ a < F + N ∧ F + N ≤ 65536 := by omega
  have hq2 : q < 1024 := by omega
  (refine wun ?_; repeat' (first | with_reducible refine And.intro ?_ ?_ | intro hsp))
  all_goals first | (exfalso; omega) | skip
  (refine loop_x [1, 2, 7, 9, 10, 11, 12, 13, 14, 15] (fun (i : Nat) => [(16, .int .i64 (i : Nat))]) (fun (i : Nat) => ⟨[(0, .cells u.a)], 1⟩) (fun (i : Nat) => i ≤ N) (fun (i : Nat) => N - i) (0) [] rfl (fun _ => by first | exact Nat.zero_le _ | (dsimp only; omega)) ?_ (by ((try (conv => whnf)); exact wkx_Un)) ?_)
  · exact Nat.zero_le _
  rintro i hi
  by_cases hin : i < N
  · have n1 : inU (nth 0 (bL t F N) i) = [.int .u8 (t.read ((F + i : Nat) : Int)).1] := by rw [bL_nth hin]; rfl
    have n2 : inU (nth 0 (bL u F N) i) = [.int .u8 (u.read ((F + i : Nat) : Int)).1] := by rw [bL_nth hin]; rfl
    have n3 : blA (nth false (fL t F N) i) = [.bool (!decide ((t.read ((F + i : Nat) : Int)).2 = 0))] := by rw [fL_nth hin]; rfl
    have n4 : blA (nth false (fL u F N) i) = [.bool (!decide ((u.read ((F + i : Nat) : Int)).2 = 0))] := by rw [fL_nth hin]; rfl
    have l1 : i < (bL t F N).length := by rw [bL_len]; exact hin
    have l2 : i < (bL u F N).length := by rw [bL_len]; exact hin
    have l3 : i < (fL t F N).length := by rw [fL_len]; exact hin
    have l4 : i < (fL u F N).length := by rw [fL_len]; exact hin
    by_cases hia : F + i = a
    · rw [hia] at n1 n2 n3 n4
      rcases hself with ⟨k2, rfl, h2, h3⟩ | ⟨rfl, h2, rfl⟩
      · rw [h2] at n3
        rw [h3] at n2 n4
        generalize (t.read ((a : Nat) : Int)).1 = v at *
        (refine wun ?_; repeat' (first | with_reducible refine And.intro ?_ ?_ | intro hsp))
        all_goals first | (exfalso; omega) | (exfalso; simp at hsp; done) | skip
        all_goals exact next_x (i + 1) [] (by (try dsimp only); omega) (by first | omega | (dsimp only; omega)) rfl (by exact wkx_Un)
      · rw [h2] at n3 n4
        generalize (u.read ((a : Nat) : Int)).1 = v at *
        (refine wun ?_; repeat' (first | with_reducible refine And.intro ?_ ?_ | intro hsp))
        all_goals first | (exfalso; omega) | (exfalso; simp at hsp; done) | skip
        all_goals exact next_x (i + 1) [] (by (try dsimp only); omega) (by first | omega | (dsimp only; omega)) rfl (by exact wkx_Un)
    · rw [hoth _ (by omega) hia] at n2 n4
      generalize (t.read ((F + i : Nat) : Int)).1 = v at *
      generalize (!decide ((t.read ((F + i : Nat) : Int)).2 = 0)) = v2 at *
      (refine wun ?_; repeat' (first | with_reducible refine And.intro ?_ ?_ | intro hsp))
      all_goals first | (exfalso; omega) | (exfalso; simp at hsp; done) | skip
      all_goals exact next_x (i + 1) [] (by (try dsimp only); omega) (by first | omega | (dsimp only; omega)) rfl (by exact wkx_Un)
  · obtain rfl : i = N := by omega
    have z := p_kind (s := u) (a := (q : Nat))
    rw [kind_in hq2] at z
    by_cases hbad : (u.K q ≠ 1 ∧ u.K q ≠ 2) ∨ u.M q = true
    · generalize u.K q = k at *
      generalize u.M q = m at *
      cases m with
      | true =>
        (refine wun ?_; repeat' (first | with_reducible refine And.intro ?_ ?_ | intro hsp))
        all_goals first | exact end_bool rfl | (exfalso; omega) | (exfalso; simp at hsp; done)
      | false =>
        have hbad : k ≠ 1 ∧ k ≠ 2 := hbad.resolve_right (by decide)
        (refine wun ?_; repeat' (first | with_reducible refine And.intro ?_ ?_ | intro hsp))
        all_goals first | exact end_bool rfl | (exfalso; omega) | (exfalso; simp at hsp; done)
    · have hm : u.M q = false := by
        cases e : u.M q with
        | false => rfl
        | true => exact absurd (.inr e) hbad
      have hk : u.K q = 1 ∨ u.K q = 2 := by
        refine Classical.byContradiction fun h => hbad (.inl ⟨fun e => h (.inl e), fun e => h (.inr e)⟩)
      have fin : ∀ v : Sy, GoodS v → v.l = [] → v.K q = 2 → (v.B q = fun _ => 0) → LocS 27 [.int .i64 (((q : Nat) : Int) * 64), .int .i64 ((((q : Nat) : Int) + 1) * 64)] v.a (.tup [.isl ((List.replicate 64 (0 : Int)).map inU), .isl ((List.replicate 64 false).map blA)]) v.a := fun v _ _ h1 h2 => by
        have z := p_bytes (s := v) (f := q * 64) (n := 64) (by omega)
        rw [show ((q * 64 : Nat) : Int) = ((q : Nat) : Int) * 64 by omega, show ((q * 64 + 64 : Nat) : Int) = (((q : Nat) : Int) + 1) * 64 by omega] at z
        rw [bL_0 hq2 h1 h2, fL_0 hq2 h1] at z
        exact z
      rcases hk with hk | hk
      · obtain ⟨v, e1, l1, k1, g1, b1⟩ := chg_oneB (w := 2) (k := 2) hlw hq2 hk hm
        have z1 := p_commit (a := (q : Nat)) (n := 1) hgw
        have hg1 := good_chg (s := u) (a := (q : Nat)) (n := 1) (v := 1) (w := 2) (k := 2) hgw (by decide)
        rw [e1] at z1 hg1
        rw [hk, hm] at z
        dsimp only at z1 hg1
        have z2 := fin v hg1 l1 k1 b1
        clear fin
        (refine wun ?_; repeat' (first | with_reducible refine And.intro ?_ ?_ | intro hsp))
        all_goals first | (exfalso; omega) | skip
        (refine loop_x [14, 15] (fun (i : Nat) => [(21, .int .i64 (i : Nat))]) (fun (i : Nat) => ⟨[], 1⟩) (fun (i : Nat) => i ≤ 64) (fun (i : Nat) => 64 - i) (0) [] rfl (fun _ => by first | exact Nat.zero_le _ | (dsimp only; omega)) ?_ (by ((try (conv => whnf)); exact wkx_Un)) ?_)
        · exact Nat.zero_le _
        rintro i hi
        by_cases hi2 : i < 64
        · have n1 : inU (nth 0 (List.replicate 64 (0 : Int)) i) = [.int .u8 0] := by rw [nth_rep hi2]; rfl
          have n2 : blA (nth false (List.replicate 64 false) i) = [.bool false] := by rw [nth_rep hi2]; rfl
          have l1 : i < (List.replicate 64 (0 : Int)).length := by rw [List.length_replicate]; exact hi2
          have l2 : i < (List.replicate 64 false).length := by rw [List.length_replicate]; exact hi2
          (refine wun ?_; repeat' (first | with_reducible refine And.intro ?_ ?_ | intro hsp))
          all_goals first | (exfalso; simp at hsp; omega) | skip
          all_goals exact next_x (i + 1) [] (by (try dsimp only); omega) (by first | omega | (dsimp only; omega)) rfl (by exact wkx_Un)
        · obtain rfl : i = 64 := by omega
          (refine wun ?_; repeat' (first | with_reducible refine And.intro ?_ ?_ | intro hsp))
          all_goals first | exact end_bool rfl | (exfalso; simp at hsp; done)
      · obtain ⟨w, e0, l0, k0, g0, b0⟩ := chg_oneB (w := 1) (k := 3) hlw hq2 hk hm
        have z0 := p_decommit (a := (q : Nat)) (n := 1) hgw
        have hg0 := good_chg (s := u) (a := (q : Nat)) (n := 1) (v := 2) (w := 1) (k := 3) hgw (by decide)
        rw [e0] at z0 hg0
        rw [hk, hm] at z
        dsimp only at z0 hg0
        have hm0 : w.M q = false := by show w.G _ = _; rw [g0]; exact hm
        obtain ⟨v, e1, l1, k1, g1, b1⟩ := chg_oneB (w := 2) (k := 2) l0 hq2 k0 hm0
        have z1 := p_commit (a := (q : Nat)) (n := 1) hg0
        have hg1 := good_chg (s := w) (a := (q : Nat)) (n := 1) (v := 1) (w := 2) (k := 2) hg0 (by decide)
        rw [e1] at z1 hg1
        dsimp only at z1 hg1
        have z2 := fin v hg1 l1 k1 b1
        clear fin
        (refine wun ?_; repeat' (first | with_reducible refine And.intro ?_ ?_ | intro hsp))
        all_goals first | (exfalso; omega) | skip
        (refine loop_x [14, 15] (fun (i : Nat) => [(21, .int .i64 (i : Nat))]) (fun (i : Nat) => ⟨[], 1⟩) (fun (i : Nat) => i ≤ 64) (fun (i : Nat) => 64 - i) (0) [] rfl (fun _ => by first | exact Nat.zero_le _ | (dsimp only; omega)) ?_ (by ((try (conv => whnf)); exact wkx_Un)) ?_)
        · exact Nat.zero_le _
        rintro i hi
        by_cases hi2 : i < 64
        · have n1 : inU (nth 0 (List.replicate 64 (0 : Int)) i) = [.int .u8 0] := by rw [nth_rep hi2]; rfl
          have n2 : blA (nth false (List.replicate 64 false) i) = [.bool false] := by rw [nth_rep hi2]; rfl
          have l1 : i < (List.replicate 64 (0 : Int)).length := by rw [List.length_replicate]; exact hi2
          have l2 : i < (List.replicate 64 false).length := by rw [List.length_replicate]; exact hi2
          (refine wun ?_; repeat' (first | with_reducible refine And.intro ?_ ?_ | intro hsp))
          all_goals first | (exfalso; simp at hsp; omega) | skip
          all_goals exact next_x (i + 1) [] (by (try dsimp only); omega) (by first | omega | (dsimp only; omega)) rfl (by exact wkx_Un)
        · obtain rfl : i = 64 := by omega
          (refine wun ?_; repeat' (first | with_reducible refine And.intro ?_ ?_ | intro hsp))
          all_goals first | exact end_bool rfl | (exfalso; simp at hsp; done)
end
end Go.Proofs.Ytjlbfijjfjogiaa
