/-
  Refusals: refused, marks and hits of the program.
-/
import Derived.Test.YtjlbfijjfjogiaaAmWt
import Derived.Test.YtjlbfijjfjogiaaRc
set_option linter.unusedSimpArgs false
set_option linter.unusedVariables false
namespace Go.Pol
open Go.Am
def updB (M : Nat → Bool) (i : Nat) (v : Bool) : Nat → Bool := fun j => if j = i then v else M j
def memT (n : Nat) (M : Nat → Bool) : List AV := (List.range n).map fun k => .bool (M k)
theorem memT_len (n : Nat) (M : Nat → Bool) : (memT n M).length = n := by simp [memT]
theorem memT_set (n : Nat) (M : Nat → Bool) (i : Nat) (v : Bool) : (memT n M).set i (.bool v) = memT n (updB M i v) := by
  refine List.ext_getElem (by simp [memT]) fun j h1 h2 => ?_
  simp only [memT, List.getElem_set, List.getElem_map, List.getElem_range, updB]
  by_cases e : i = j
  · subst e; simp
  · rw [if_neg e, if_neg (fun h => e h.symm)]
theorem memT_make (n : Nat) : (List.replicate n [AV.bool false]).flatten = memT n fun _ => false := by
  induction n with
  | zero => rfl
  | succ n ih =>
    rw [List.replicate_succ', List.flatten_append, ih]
    simp [memT, List.range_succ]
def markA (R : Nat → Bool) (j : Nat) : List AV := [.bool (R j)]
theorem mark_len (R : Nat → Bool) (j : Nat) : (markA R j).length = 1 := rfl
theorem plain_mk {n : Nat} {R : Nat → Bool} : Plain (.isl ((List.range n).map (markA R))) := plain_isl fun e he => by
  obtain ⟨j, _, rfl⟩ := List.mem_map.1 he
  exact fun x hx => by obtain rfl := List.mem_singleton.1 hx; exact plain_bool
theorem plain_irl {r : Rl} : Plain (.iptr (rlA r)) := plain_iptr (rlA_plain r)
theorem memT_plain {n : Nat} {M : Nat → Bool} : ∀ x ∈ memT n M, Plain x := fun x hx => by obtain ⟨p, _, rfl⟩ := List.mem_map.1 hx; exact plain_bool
/-- Which calls a rule refuses: First, First + Every, .. -/
theorem ref_s {r : Rl} {k : Int} {f e t j : Nat} (ek : r.k = k) (ef : r.f = (f : Nat)) (ee : r.e = (e : Nat)) (et : r.t = (t : Nat)) (he : e = 0 → t = 1) : refB r k (j : Nat) = true ↔ ∃ s, f + s * e = j ∧ (t = 0 ∨ s < t) := by
  unfold refB
  rw [decide_eq_true_eq, ek, ef, ee, et]
  constructor
  · rintro ⟨-, h1, h2⟩
    rcases h2 with ⟨h3, h4⟩ | ⟨h3, h4, h5⟩
    · exact ⟨0, by rw [Nat.zero_mul]; omega, .inr (by have := he (by omega); omega)⟩
    · obtain ⟨q, hq⟩ := Int.eq_ofNat_of_zero_le (Int.ediv_nonneg (a := ((j : Int) - f)) (b := (e : Int)) (by omega) (by omega))
      rw [hq] at h4 h5
      refine ⟨q, ?_, by omega⟩
      have : ((f + q * e : Nat) : Int) = (j : Nat) := by rw [Int.natCast_add, Int.natCast_mul]; exact h4
      omega
  · rintro ⟨s, h1, h2⟩
    subst h1
    refine ⟨rfl, by rw [Int.natCast_add, Int.natCast_mul]; have : (0 : Int) ≤ (s : Int) * e := Int.mul_nonneg (by omega) (by omega); omega, ?_⟩
    by_cases h0 : e = 0
    · exact .inl ⟨by omega, by rw [h0, Nat.mul_zero]; omega⟩
    · have hd : ((f + s * e : Nat) : Int) - f = (s : Int) * e := by rw [Int.natCast_add, Int.natCast_mul]; omega
      refine .inr ⟨by omega, ?_, ?_⟩
      · rw [hd, Int.mul_ediv_cancel _ (by omega), Int.natCast_add, Int.natCast_mul]
      · rw [hd, Int.mul_ediv_cancel _ (by omega)]; omega
/-- Marks behind so many calls of a rule. -/
def mkJ (M M' : Nat → Bool) (f e lim m : Nat) : Prop := ∀ j : Nat, j ≤ lim → (M' j = true ↔ M j = true ∨ ∃ s, s < m ∧ f + s * e = j)
theorem mkJ_0 {M : Nat → Bool} {f e lim : Nat} : mkJ M M f e lim 0 := fun j hj => ⟨.inl, fun h => h.elim id fun ⟨s, h1, _⟩ => by omega⟩
theorem mkJ_s {M M' : Nat → Bool} {f e lim m : Nat} (h : mkJ M M' f e lim m) : mkJ M (updB M' (f + m * e) true) f e lim (m + 1) := fun j hj => by
  unfold updB
  by_cases e1 : j = f + m * e
  · rw [if_pos e1]
    exact ⟨fun _ => .inr ⟨m, by omega, e1.symm⟩, fun _ => rfl⟩
  · rw [if_neg e1, h j hj]
    constructor
    · rintro (h1 | ⟨s, h1, h2⟩)
      · exact .inl h1
      · exact .inr ⟨s, by omega, h2⟩
    · rintro (h1 | ⟨s, h1, h2⟩)
      · exact .inl h1
      · by_cases e2 : s = m
        · subst e2; exact absurd h2.symm e1
        · exact .inr ⟨s, by omega, h2⟩
end Go.Pol
namespace Go.Proofs.Ytjlbfijjfjogiaa
open Go Go.Am Go.Pol
theorem wkx_Rd {p : Prop} (h : p := by (refine weak_s (by exact oneOf_of rfl) (by exact subH_of rfl) (by intro hs; (repeat' ((try (conv => whnf)); first | with_reducible exact True.intro | with_reducible refine And.intro ?_ ?_ | (with_reducible refine WkX.mk ?_; first | exact wk_undef | exact wk_int (by first | rfl | omega | (dsimp only; omega)) | exact wk_bool rfl | exact wk_ptr rfl (by first | decide | simp | omega) | exact wk_sl rfl (by first | decide | simp | omega) (by first | rfl | omega | simp) (by first | omega | simp) (by first | omega | simp) | exact wk_own rfl (by first | decide | simp | omega) | exact wk_nil0 (by first | rfl | simp) | exact wk_slown rfl (by first | decide | omega | (simp; done)) (by first | omega | (simp; done)) (by first | rfl | omega | (simp; done) | (simp; omega)) | exact wk_plain hs (by (first | assumption | exact plain_int | exact plain_bool | exact plain_undef | exact plain_nils | exact plain_nilp | exact plain_nilf | exact plain_str | with_reducible apply plain_rl | with_reducible apply plain_rls | with_reducible apply plain_pl | with_reducible apply plain_ii | with_reducible apply plain_st | with_reducible apply plain_stE | with_reducible apply plain_zst | with_reducible apply plain_zstE | with_reducible apply plain_irl | with_reducible apply plain_mk)) | (with_reducible refine wk_fn ?_ ?_ <;> repeat' (first | with_reducible exact wkl_nil | with_reducible refine wkl_cons ?_ ?_ | exact wk_ptr rfl (by first | decide | simp | omega))) | (with_reducible refine wk_agg ?_; repeat' (first | with_reducible exact wkl_nil | with_reducible refine wkl_cons ?_ ?_ | exact wk_int (by first | rfl | omega | (dsimp only; omega)) | exact wk_bool rfl)) | exact wk_yld rfl (by first | decide | simp | omega))))) (by intro hs; (try dsimp only); (repeat' (first | with_reducible exact wko_nil | refine wko_plain hs (by first | decide | omega | simp) rfl (by first | rfl) (by (first | with_reducible assumption | with_reducible apply rlA_plain _ | with_reducible apply plain_flat rlA_plain | with_reducible apply stA_plain | with_reducible apply memT_plain | with_reducible apply plain_map (fun _ => plain_int) | with_reducible apply plain_map (fun _ => plain_bool) | ((repeat' (first | exact plain_all0 | refine plain_all2 ?_ ?_ | exact plain_int | first | assumption | exact plain_int | exact plain_bool | exact plain_undef | exact plain_nils | exact plain_nilp | exact plain_nilf | exact plain_str | with_reducible apply plain_rl | with_reducible apply plain_rls | with_reducible apply plain_pl | with_reducible apply plain_ii | with_reducible apply plain_st | with_reducible apply plain_stE | with_reducible apply plain_zst | with_reducible apply plain_zstE | with_reducible apply plain_irl | with_reducible apply plain_mk)); done) | ((refine plain_app ?_ ?_) <;> (first | with_reducible assumption | with_reducible apply rlA_plain _ | with_reducible apply plain_flat rlA_plain | with_reducible apply stA_plain | with_reducible apply memT_plain | with_reducible apply plain_map (fun _ => plain_int) | with_reducible apply plain_map (fun _ => plain_bool) | ((repeat' (first | exact plain_all0 | refine plain_all2 ?_ ?_ | exact plain_int | first | assumption | exact plain_int | exact plain_bool | exact plain_undef | exact plain_nils | exact plain_nilp | exact plain_nilf | exact plain_str | with_reducible apply plain_rl | with_reducible apply plain_rls | with_reducible apply plain_pl | with_reducible apply plain_ii | with_reducible apply plain_st | with_reducible apply plain_stE | with_reducible apply plain_zst | with_reducible apply plain_zstE | with_reducible apply plain_irl | with_reducible apply plain_mk)); done))))) ?_ | refine wko_cells (by first | decide | omega | simp) rfl (by repeat' (first | with_reducible exact wkl_nil | with_reducible refine wkl_cons ?_ ?_ | (first | exact wk_undef | exact wk_int (by first | rfl | omega | (dsimp only; omega)) | exact wk_bool rfl | exact wk_ptr rfl (by first | decide | simp | omega) | exact wk_sl rfl (by first | decide | simp | omega) (by first | rfl | omega | simp) (by first | omega | simp) (by first | omega | simp) | exact wk_own rfl (by first | decide | simp | omega) | exact wk_nil0 (by first | rfl | simp) | exact wk_slown rfl (by first | decide | omega | (simp; done)) (by first | omega | (simp; done)) (by first | rfl | omega | (simp; done) | (simp; omega)) | exact wk_plain hs (by (first | assumption | exact plain_int | exact plain_bool | exact plain_undef | exact plain_nils | exact plain_nilp | exact plain_nilf | exact plain_str | with_reducible apply plain_rl | with_reducible apply plain_rls | with_reducible apply plain_pl | with_reducible apply plain_ii | with_reducible apply plain_st | with_reducible apply plain_stE | with_reducible apply plain_zst | with_reducible apply plain_zstE | with_reducible apply plain_irl | with_reducible apply plain_mk)) | (with_reducible refine wk_fn ?_ ?_ <;> repeat' (first | with_reducible exact wkl_nil | with_reducible refine wkl_cons ?_ ?_ | exact wk_ptr rfl (by first | decide | simp | omega))) | (with_reducible refine wk_agg ?_; repeat' (first | with_reducible exact wkl_nil | with_reducible refine wkl_cons ?_ ?_ | exact wk_int (by first | rfl | omega | (dsimp only; omega)) | exact wk_bool rfl)) | exact wk_yld rfl (by first | decide | simp | omega)))) ?_ | refine wko_loop (by first | decide | omega | simp) rfl (by ((try subst hF); (try subst hF2); exact wkl_sd (wkf_sget (by (repeat' ((try (conv => whnf)); first | with_reducible exact True.intro | with_reducible refine And.intro ?_ ?_ | (with_reducible refine WkX.mk ?_; first | exact wk_undef | exact wk_int (by first | rfl | omega | (dsimp only; omega)) | exact wk_bool rfl | exact wk_ptr rfl (by first | decide | simp | omega) | exact wk_sl rfl (by first | decide | simp | omega) (by first | rfl | omega | simp) (by first | omega | simp) (by first | omega | simp) | exact wk_own rfl (by first | decide | simp | omega) | exact wk_nil0 (by first | rfl | simp) | exact wk_slown rfl (by first | decide | omega | (simp; done)) (by first | omega | (simp; done)) (by first | rfl | omega | (simp; done) | (simp; omega)) | exact wk_plain hs (by (first | assumption | exact plain_int | exact plain_bool | exact plain_undef | exact plain_nils | exact plain_nilp | exact plain_nilf | exact plain_str | with_reducible apply plain_rl | with_reducible apply plain_rls | with_reducible apply plain_pl | with_reducible apply plain_ii | with_reducible apply plain_st | with_reducible apply plain_stE | with_reducible apply plain_zst | with_reducible apply plain_zstE | with_reducible apply plain_irl | with_reducible apply plain_mk)) | (with_reducible refine wk_fn ?_ ?_ <;> repeat' (first | with_reducible exact wkl_nil | with_reducible refine wkl_cons ?_ ?_ | exact wk_ptr rfl (by first | decide | simp | omega))) | (with_reducible refine wk_agg ?_; repeat' (first | with_reducible exact wkl_nil | with_reducible refine wkl_cons ?_ ?_ | exact wk_int (by first | rfl | omega | (dsimp only; omega)) | exact wk_bool rfl)) | exact wk_yld rfl (by first | decide | simp | omega)))))))) ?_ | exact wko_nil))))) : p := h
theorem wx_Rd {p q : Prop} (hq : q) (h : HidP q → p := by (intro hQz; ((repeat' ((try (conv => whnf)); first | (with_reducible first | refine run_cons ?_ | refine runq_cons ?_ | refine code_seq ?_ | refine code_reg ?_ | refine code_cond ?_ | refine run_nil ?_ | refine runq_nil ?_ | refine rund_op rfl ?_ | refine rund_nil ?_ | refine code_block ?_ | refine code_skip ?_ | refine code_exit ?_ | refine code_ret ?_ | refine code_range ?_ | refine rund_fast (by decide +kernel) ?_ | refine rund_slow (by decide +kernel) ?_ | refine br_tt ?_ | refine br_ff ?_ | refine br_n ?_ | refine br_and ?_ | refine br_or ?_ | refine br_t (by assumption) ?_ | refine br_f (by assumption) ?_ | refine eq_i64 (by omega) ?_ | refine el_tn ?_) | ((with_reducible refine br_dt ?_ ?_); focus omega) | ((with_reducible refine br_df ?_ ?_); focus omega) | ((with_reducible apply br_dq hQz) <;> (try intro hsp hQz)) | ((with_reducible refine ck_x ?_ ?_); focus (first | omega | rfl | assumption | decide | (simp only [List.length_map, List.length_cons, List.length_nil]; omega))) | (with_reducible first | refine eq_tn ?_ | refine eq_tn1 ?_ | refine eq_tn2 ?_ | refine eq_m1 ?_ | refine eq_m2 ?_ | refine eq_zm ?_ | refine eq_z ?_ | refine len_map ?_ | refine len_sl ?_ | refine len_nils ?_ | refine len_own' ?_ | refine len_isl ?_ | refine eq_u8 (by omega) ?_ | refine eq_u16 (by omega) ?_) | refine hel _ ?_ | (with_reducible first | refine eq_rfl ?_ | refine ChkX.mk (by kernel_rfl) ?_ | refine code_q rfl ?_ | refine code_d (by decide +kernel) ?_ | refine end_go rfl ?_) | refine len_map ?_ | refine len_isl ?_ | refine el_of rfl rfl ?_ | refine del_own ?_ | refine del_own' rfl ?_ | refine as_go rfl ?_ | refine rd_go rfl ?_ | refine rg_end rfl ?_ | refine flat_ownX ?_ | refine EqLX.mk ?_ | ((with_reducible apply br_bq hQz) <;> (try intro hsp hQz)) | exact hQz.out)) <;> (try (conv => whnf))))) : p := h ⟨hq⟩
theorem wi {p q : Prop} (hq : q) (h : HidP q → p := by (intro hQz; ((repeat' ((try (conv => whnf)); first | (with_reducible first | refine run_cons ?_ | refine runq_cons ?_ | refine code_seq ?_ | refine code_reg ?_ | refine code_cond ?_ | refine run_nil ?_ | refine runq_nil ?_ | refine rund_op rfl ?_ | refine rund_nil ?_ | refine code_block ?_ | refine code_skip ?_ | refine code_exit ?_ | refine code_ret ?_ | refine code_range ?_ | refine rund_fast (by decide +kernel) ?_ | refine rund_slow (by decide +kernel) ?_ | refine br_tt ?_ | refine br_ff ?_ | refine br_n ?_ | refine br_and ?_ | refine br_or ?_ | refine br_t (by assumption) ?_ | refine br_f (by assumption) ?_ | refine eq_i64 (by omega) ?_ | refine el_tn ?_) | ((with_reducible refine br_dt ?_ ?_); focus omega) | ((with_reducible refine br_df ?_ ?_); focus omega) | ((with_reducible apply br_dq hQz) <;> (try intro hsp hQz)) | ((with_reducible refine ck_x ?_ ?_); focus (first | omega | rfl | assumption | decide | (simp only [List.length_map, List.length_cons, List.length_nil]; omega))) | (with_reducible first | refine eq_tn ?_ | refine eq_tn1 ?_ | refine eq_tn2 ?_ | refine eq_m1 ?_ | refine eq_m2 ?_ | refine eq_zm ?_ | refine eq_z ?_ | refine len_map ?_ | refine len_sl ?_ | refine len_nils ?_ | refine len_own' ?_ | refine len_isl ?_ | refine eq_u8 (by omega) ?_ | refine eq_u16 (by omega) ?_) | refine el_mapE rl_len (by first | assumption | omega) (by with_reducible assumption) ?_ | refine nthK_of (by with_reducible assumption) ?_ | refine eq_of (by with_reducible assumption) ?_ | refine set1K_of (by rw [memT_len]; omega) (by with_reducible assumption) ?_ | (with_reducible first | refine eq_rfl ?_ | refine ChkX.mk (by kernel_rfl) ?_ | refine code_q rfl ?_ | refine code_d (by decide +kernel) ?_ | refine end_go rfl ?_) | refine cx_pureS (by assumption) ?_ | refine dcx_pureS (by assumption) ?_ | refine qcx_pureS (by assumption) ?_ | (refine cx_in hmix b96 rfl ?_; unfold c96) | (refine cx_in hmix b99 rfl ?_; unfold c99) | (refine cx_in hmix b97 rfl ?_; unfold c97) | (refine cx_in hmix b93 rfl ?_; unfold c93) | refine cx_yldE hmix rfl (by assumption) (by assumption) (by assumption) rfl ?_ | refine len_map ?_ | refine len_isl ?_ | refine el_of rfl rfl ?_ | refine del_own ?_ | refine del_own' rfl ?_ | refine as_go rfl ?_ | refine rd_go rfl ?_ | refine rg_end rfl ?_ | refine flat_ownX ?_ | refine EqLX.mk ?_ | ((with_reducible apply br_bq hQz) <;> (try intro hsp hQz)) | exact hQz.out)) <;> (try (conv => whnf))))) : p := h ⟨hq⟩
section
variable {l : List Rl} {k n : Int}
theorem k_refused (hl : okL l) (hn : 1 ≤ n ∧ n ≤ 1000001) (hb : l.length ≤ 1000) : PureS 94 [.agg [.isl (l.map rlA)], .int .i64 k, .int .i64 n] (.bool (refL l k n)) := by
  refine PureS.mk (pure_x hmix b94 plainG ⟨plain_pl, plain_int, plain_int, trivial⟩ plain_bool rfl ?_)
  unfold c94
  (refine wi ?_; repeat' (first | with_reducible refine And.intro ?_ ?_ | intro hsp))
  (refine loop_x [0, 1, 7] (fun (i : Nat) => [(8, .int .i64 (i : Nat))]) (fun (i : Nat) => ⟨[(0, .cells [.isl (l.map rlA)]), (1, .cells [.int .i64 k]), (2, .cells [.int .i64 n])], 3⟩) (fun (i : Nat) => i ≤ l.length ∧ ∀ j, j < i → refB (nth dR l j) k n = false) (fun (i : Nat) => l.length - i) (0) [] rfl (fun _ => by first | exact Nat.zero_le _ | (dsimp only; omega)) ?_ (by ((try (conv => whnf)); exact wkx_Rd)) ?_)
  · exact ⟨Nat.zero_le _, fun j hj => by omega⟩
  rintro i ⟨hi, h0⟩
  by_cases hil : i < l.length
  · obtain ⟨r, he⟩ : ∃ r, nth dR l i = r := ⟨_, rfl⟩
    have hr : rlErr r = 0 := by rw [← he]; exact hl i hil
    obtain ⟨h1, h2, h3⟩ := rl_ok hr
    have z := k_next (n := n - 1) r hr (by omega)
    have hnr := next_ref (r := r) (k := k) (n := n) (by omega) (by omega) (by omega) hn.1
    cases h1 : refB r k n with
    | false =>
      have hne : ¬ (r.k = k ∧ nextR r (n - 1) = n) := fun h => by rw [hnr.1 h] at h1; cases h1
      (refine wi ?_; repeat' (first | with_reducible refine And.intro ?_ ?_ | intro hsp))
      all_goals first | (exfalso; exact hne ⟨by assumption, by assumption⟩) | skip
      all_goals exact next_x (i + 1) [] ⟨by omega, fun j hj => if e : j = i then by rw [e, he]; exact h1 else h0 j (by omega)⟩ (by first | omega | (dsimp only; omega)) rfl (by exact wkx_Rd)
    | true =>
      obtain ⟨e1, e2⟩ := hnr.2 h1
      rw [any_at hil (by rw [he]; exact h1)]
      (refine wi ?_; repeat' (first | with_reducible refine And.intro ?_ ?_ | intro hsp))
      all_goals exact end_bool rfl
  · rw [any_no fun j hj => h0 j (by omega)]
    (refine wi ?_; repeat' (first | with_reducible refine And.intro ?_ ?_ | intro hsp))
    all_goals exact end_bool rfl
/-- The marks behind some rules. -/
def mkI (l : List Rl) (k : Int) (lim i : Nat) (M : Nat → Bool) : Prop := ∀ j : Nat, j ≤ lim → (M j = true ↔ ∃ r, r ∈ l.take i ∧ refB r k (j : Nat) = true)
theorem plain_marks {n : Nat} {M : Nat → Bool} : Plain (.isl ((List.range n).map fun j => [.bool (M j)])) := plain_isl fun e he => by
  obtain ⟨j, _, rfl⟩ := List.mem_map.1 he
  exact fun x hx => by obtain rfl := List.mem_singleton.1 hx; exact plain_bool
theorem wk_marks {n : Nat} {M R : Nat → Bool} {h : Hp} {d kk : Nat} (hM : ∀ j, j < n → M j = R j) (hi : lk h.l d = some (.cells (memT n M))) : WkV Try.prog id h ⟨[], kk⟩ (.sl d 0 n n 1) (.isl ((List.range n).map fun j => [.bool (R j)])) := by
  have he : memT n M = ((List.range n).map fun j => [AV.bool (R j)]).flatten := by
    unfold memT
    rw [List.map_eq_flatMap, List.flatMap_def]
    congr 1
    exact List.map_congr_left fun j hj => by rw [hM j (List.mem_range.1 hj)]
  refine wk_frz hi (fun j o hj => by cases hj) subH_nil (by simp) (fun e he => ?_) ?_ fun e he x hx => ?_
  · obtain ⟨s, _, rfl⟩ := List.mem_map.1 he; rfl
  · rw [List.drop_zero, List.take_of_length_le (by rw [memT_len]; omega)]; exact he
  · obtain ⟨s, _, rfl⟩ := List.mem_map.1 he
    obtain rfl := List.mem_singleton.1 hx
    exact plain_bool
set_option maxHeartbeats 1600000 in
theorem k_marks (hl : okL l) (lim : Nat) (hm : lim ≤ 1000000) (hb : l.length ≤ 1000) : PureS 89 [.agg [.isl (l.map rlA)], .int .i64 k, .int .i64 (lim : Nat)] (.isl ((List.range (lim + 1)).map fun j => [.bool (refL l k (j : Nat))])) := by
  refine PureS.mk (pure_x hmix b89 plainG ⟨plain_pl, plain_int, plain_int, trivial⟩ plain_marks rfl ?_)
  unfold c89
  have ht : (((lim : Nat) : Int) + 1).toNat = lim + 1 := by omega
  have hmk : (List.replicate (lim + 1) [AV.bool false]).flatten = memT (lim + 1) fun _ => false := memT_make _
  (refine wi ?_; repeat' (first | with_reducible refine And.intro ?_ ?_ | intro hsp))
  (refine loop_x [1, 2, 7, 15, 16] (fun (q : Nat × (Nat → Bool)) => [(17, .int .i64 (q.1 : Nat))]) (fun (q : Nat × (Nat → Bool)) => ⟨[(0, .cells [.isl (l.map rlA)]), (1, .cells (memT (lim + 1) q.2)), (2, .cells [.sl 1 0 (lim + 1) (lim + 1) 1])], 3⟩) (fun (q : Nat × (Nat → Bool)) => q.1 ≤ l.length ∧ mkI l k lim q.1 q.2) (fun (q : Nat × (Nat → Bool)) => l.length - q.1) ((0, fun _ => false)) [] rfl (fun _ => by first | exact Nat.zero_le _ | (dsimp only; omega)) ?_ (by ((try (conv => whnf)); exact wkx_Rd)) ?_)
  · exact ⟨Nat.zero_le _, fun j hj => ⟨fun h => (by cases h), fun ⟨r, h1, _⟩ => (by cases h1)⟩⟩
  rintro ⟨i, M⟩ ⟨hi, h0⟩
  dsimp only at hi h0 ⊢
  by_cases hil : i < l.length
  · obtain ⟨r, he⟩ : ∃ r, nth dR l i = r := ⟨_, rfl⟩
    have hr : rlErr r = 0 := by rw [← he]; exact hl i hil
    obtain ⟨h1, h2, h3⟩ := rl_ok hr
    have htk := take_nth (d := dR) hil
    rw [he] at htk
    by_cases hk : r.k = k
    · obtain ⟨f, ef⟩ := Int.eq_ofNat_of_zero_le (show 0 ≤ r.f by omega)
      obtain ⟨e, ee⟩ := Int.eq_ofNat_of_zero_le (show 0 ≤ r.e by omega)
      obtain ⟨t, et⟩ := Int.eq_ofNat_of_zero_le (show 0 ≤ r.t by omega)
      have het : e = 0 → t = 1 := fun h => by have := h3 (by omega); omega
      have href := fun j => ref_s (j := j) hk ef ee et het
      (refine wi ?_; repeat' (first | with_reducible refine And.intro ?_ ?_ | intro hsp))
      refine range_x hmix b95 rfl trivial ?_
      intro frl asl bdl hF hA hB
      unfold c95
      (refine wi ?_; repeat' (first | with_reducible refine And.intro ?_ ?_ | intro hsp))
      (refine loop_x [0, 1, 2] (fun (p : Nat × (Nat → Bool)) => [(4, .int .i64 ((f + p.1 * e : Nat) : Int)), (5, .int .i64 (p.1 : Nat))]) (fun (p : Nat × (Nat → Bool)) => ⟨[(0, .cells [.isl (l.map rlA)]), (1, .cells (memT (lim + 1) p.2)), (2, .cells [.sl 1 0 (lim + 1) (lim + 1) 1]), (3, .cells (rlA r)), (4, .cells (rlA r)), (5, .cells [.int .i64 (lim : Nat)]), (6, .loop .ready none frl [28] asl bdl)], 7⟩) (fun (p : Nat × (Nat → Bool)) => p.1 ≤ lim + 1 ∧ mkJ M p.2 f e lim p.1 ∧ (∀ s, s < p.1 → t = 0 ∨ s < t)) (fun (p : Nat × (Nat → Bool)) => lim + 2 - p.1) ((0, M)) [] rfl (fun _ => by first | exact Nat.zero_le _ | (dsimp only; omega)) ?_ (by ((try (conv => whnf)); (rw [show f + 0 * e = f by omega]); exact wkx_Rd)) ?_)
      · exact ⟨by omega, mkJ_0, fun s hs => by omega⟩
      rintro ⟨m, M'⟩ ⟨hm1, hj, hs⟩
      dsimp only at hm1 hj hs ⊢
      have hsu : f + (m + 1) * e = f + m * e + e := by rw [Nat.add_mul, Nat.one_mul]; omega
      by_cases hgo : f + m * e ≤ lim ∧ (t = 0 ∨ m < t)
      · obtain ⟨hg1, hg2⟩ := hgo
        have hst := memT_set (lim + 1) M' (f + m * e) true
        have hme : m ≤ lim := by
          by_cases h0 : e = 0
          · have := het h0; omega
          · have : m * 1 ≤ m * e := Nat.mul_le_mul_left m (by omega)
            omega
        have hs' : ∀ s, s < m + 1 → t = 0 ∨ s < t := fun s h => by
          by_cases e2 : s = m
          · subst e2; exact hg2
          · exact hs s (by omega)
        (refine wi ?_; repeat' (first | with_reducible refine And.intro ?_ ?_ | intro hsp))
        all_goals exact next_x (m + 1, updB M' (f + m * e) true) [] ⟨by dsimp only; omega, mkJ_s hj, hs'⟩ (by first | omega | (dsimp only; omega)) rfl (by exact wkx_Rd)
      · have hfin : mkI l k lim (i + 1) M' := fun j hjl => by
          rw [hj j hjl, h0 j hjl, htk]
          have hrj := href j
          constructor
          · rintro (⟨s, h4, h5⟩ | ⟨s, h4, h5⟩)
            · exact ⟨s, List.mem_append_left _ h4, h5⟩
            · exact ⟨r, List.mem_append_right _ (List.mem_singleton.2 rfl), hrj.2 ⟨s, h5, hs s h4⟩⟩
          · rintro ⟨s, h4, h5⟩
            rcases List.mem_append.1 h4 with h4 | h4
            · exact .inl ⟨s, h4, h5⟩
            · obtain rfl := List.mem_singleton.1 h4
              obtain ⟨s, h6, h7⟩ := hrj.1 h5
              refine .inr ⟨s, Classical.byContradiction fun h8 => ?_, h6⟩
              have h9 : m * e ≤ s * e := Nat.mul_le_mul_right e (by omega)
              exact hgo ⟨by omega, by omega⟩
        (refine wi ?_; repeat' (first | with_reducible refine And.intro ?_ ?_ | intro hsp))
        all_goals exact next_x (i + 1, M') [] ⟨by dsimp only; omega, hfin⟩ (by first | omega | (dsimp only; omega)) rfl (by exact wkx_Rd)
    · (refine wi ?_; repeat' (first | with_reducible refine And.intro ?_ ?_ | intro hsp))
      all_goals exact next_x (i + 1, M) [] ⟨by dsimp only; omega, fun j hj => by rw [h0 j hj, htk]; exact ⟨fun ⟨s, hs, e⟩ => ⟨s, List.mem_append_left _ hs, e⟩, fun ⟨s, hs, e⟩ => (List.mem_append.1 hs).elim (fun h => ⟨s, h, e⟩) fun h => by obtain rfl := List.mem_singleton.1 h; unfold refB at e; simp at e; exact absurd e.1 hk⟩⟩ (by first | omega | (dsimp only; omega)) rfl (by exact wkx_Rd)
  · (refine wi ?_; repeat' (first | with_reducible refine And.intro ?_ ?_ | intro hsp))
    have hie : i = l.length := by omega
    subst hie
    have hM : ∀ j : Nat, j < lim + 1 → M j = refL l k (j : Nat) := fun j hj => by
      have := h0 j (by omega)
      rw [List.take_length] at this
      apply Bool.eq_iff_iff.2
      rw [this]
      unfold refL
      rw [List.any_eq_true]
    exact end_wk (wk_marks hM rfl)
/-- How many of the first places are marked. -/
def cntM (R : Nat → Bool) : Nat → Nat
  | 0 => 0
  | m + 1 => cntM R m + if R m then 1 else 0
theorem cntM_le {R : Nat → Bool} : ∀ m, cntM R m ≤ m
  | 0 => Nat.le_refl _
  | m + 1 => by
    have := cntM_le (R := R) m
    show cntM R m + _ ≤ m + 1
    split <;> omega
theorem cntM_cnt {l : List Rl} {k : Int} (h0 : refL l k 0 = false) : ∀ m, cntM (fun j => refL l k (j : Nat)) (m + 1) = cnt l k m
  | 0 => by show 0 + _ = 0; rw [if_neg (show ¬ refL l k ((0 : Nat) : Int) = true by rw [show ((0 : Nat) : Int) = 0 from rfl, h0]; simp)]
  | m + 1 => by
    show cntM (fun j => refL l k (j : Nat)) (m + 1) + _ = cnt l k m + _
    rw [cntM_cnt h0 m]
theorem ref_zero {l : List Rl} {k : Int} (hl : okL l) : refL l k 0 = false := any_no fun j hj => by
  obtain ⟨_, h2, _⟩ := rl_ok (hl j hj)
  unfold refB
  exact decide_eq_false fun h => by omega
theorem k_hits (hl : okL l) (lim : Nat) (hm : lim ≤ 1000000) (hb : l.length ≤ 1000) : PureS 74 [.agg [.isl (l.map rlA)], .int .i64 k, .int .i64 (lim : Nat)] (.int .i64 (cnt l k lim : Nat)) := by
  have z := k_marks (k := k) hl lim hm hb
  rw [← cntM_cnt (ref_zero hl) lim]
  change PureS _ _ (.isl ((List.range (lim + 1)).map (markA fun j => refL l k (j : Nat)))) at z
  generalize (fun j : Nat => refL l k (j : Nat)) = R at *
  refine PureS.mk (pure_x hmix b74 plainG ⟨plain_pl, plain_int, plain_int, trivial⟩ plain_int rfl ?_)
  unfold c74
  have hln : (List.range (lim + 1)).length = lim + 1 := List.length_range
  (refine wi ?_; repeat' (first | with_reducible refine And.intro ?_ ?_ | intro hsp))
  (refine loop_x [12, 13] (fun (i : Nat) => [(6, .int .i64 (cntM R i : Nat)), (14, .int .i64 (i : Nat))]) (fun (i : Nat) => ⟨[], 0⟩) (fun (i : Nat) => i ≤ lim + 1) (fun (i : Nat) => lim + 1 - i) (0) [] rfl (fun _ => by first | exact Nat.zero_le _ | (dsimp only; omega)) ?_ (by ((try (conv => whnf)); (rw [show cntM R 0 = 0 from rfl]); exact wkx_Rd)) ?_)
  · exact Nat.zero_le _
  intro i hi
  have hc := cntM_le (R := R) i
  by_cases hil : i < lim + 1
  · have he : nth 0 (List.range (lim + 1)) i = i := by rw [nth_get (by omega), List.getElem_range]
    cases h1 : R i with
    | false =>
      have hs : cntM R (i + 1) = cntM R i := by show cntM R i + (if R i then 1 else 0) = _; rw [h1]; rfl
      have hel : ∀ K : List AV → Prop, K [.bool false] → ElX ((List.range (lim + 1)).map (markA R)) i 1 K := fun K hK => el_mapE (mark_len R) (by omega) he (by unfold markA; rw [h1]; exact hK)
      (refine wx_Rd ?_; repeat' (first | with_reducible refine And.intro ?_ ?_ | intro hsp))
      all_goals exact next_x (i + 1) [] (by (try dsimp only); omega) (by first | omega | (dsimp only; omega)) rfl (by ((try dsimp only); rw [hs]); exact wkx_Rd)
    | true =>
      have hs : cntM R (i + 1) = cntM R i + 1 := by show cntM R i + (if R i then 1 else 0) = _; rw [h1]; rfl
      have hel : ∀ K : List AV → Prop, K [.bool true] → ElX ((List.range (lim + 1)).map (markA R)) i 1 K := fun K hK => el_mapE (mark_len R) (by omega) he (by unfold markA; rw [h1]; exact hK)
      (refine wx_Rd ?_; repeat' (first | with_reducible refine And.intro ?_ ?_ | intro hsp))
      all_goals exact next_x (i + 1) [] (by (try dsimp only); omega) (by first | omega | (dsimp only; omega)) rfl (by ((try dsimp only); rw [hs]); exact wkx_Rd)
  · have : i = lim + 1 := by omega
    subst this
    (refine wx_Rd ?_; repeat' (first | with_reducible refine And.intro ?_ ?_ | intro hsp))
    all_goals exact end_int rfl
end
end Go.Proofs.Ytjlbfijjfjogiaa
