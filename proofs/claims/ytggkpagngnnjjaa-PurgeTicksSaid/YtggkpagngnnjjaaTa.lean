/-
  What PurgeTicks needs: plain facts, left, Done, SameOrders.
-/
import Derived.Test.YtggkpagngnnjjaaSb
set_option linter.unusedSimpArgs false
set_option linter.unusedVariables false
namespace Go.Pol
open Go.Am
section
variable {age ref keep now : Int} {l : List (Int × Int)}
theorem Chk.all (h : Chk age ref keep l 0) : (0 ≤ ref ∧ 0 ≤ age ∧ age ≤ 1000000000000 ∧ 0 ≤ keep ∧ keep ≤ 1024) ∧ P1 l ∧ P2 l ∧ P3 l := by
  unfold Chk badSt at h
  rcases h with h | h | h | h | h
  · exact absurd h.2 (by decide)
  · exact absurd h.2.2 (by decide)
  · exact absurd h.2.2.2 (by decide)
  · exact absurd h.2.2.2.2 (by decide)
  · exact ⟨by omega, h.2.1, h.2.2.1, h.2.2.2.1⟩
theorem P2.mono (h : P2 l) {i : Nat} : ∀ j, i ≤ j → j < l.length → (nth d0 l i).2 ≤ (nth d0 l j).2
  | 0, h1, h2 => by rw [show i = 0 by omega]; exact Int.le_refl _
  | j + 1, h1, h2 => by
    by_cases e : i = j + 1
    · subst e; exact Int.le_refl _
    · have h3 := P2.mono (i := i) h j (by omega) (by omega)
      have h4 := h j h2
      rw [ltP_iff] at h4
      omega
/-- What is left is not old, and not more than is kept. -/
theorem stop_rest (h2 : P2 l) (hk : 0 ≤ keep) {K : Nat} (hK : Stop (whyT age keep now l) l.length K) : ((l.length : Int) - K ≤ keep) ∧ ∀ j, K ≤ j → j < l.length → now < (nth d0 l j).2 + age := by
  rcases hK.off with e | e
  · subst e
    exact ⟨by omega, fun j h3 h4 => by omega⟩
  · unfold whyT at e
    by_cases c1 : (nth d0 l K).2 + age ≤ now
    · rw [if_pos c1] at e; exact absurd e (by decide)
    · rw [if_neg c1] at e
      by_cases c2 : keep < (l.length : Int) - K
      · rw [if_pos c2] at e; exact absurd e (by decide)
      · refine ⟨by omega, fun j h3 h4 => ?_⟩
        have := h2.mono (i := K) j h3 h4
        omega
/-- Why what is ordered is ordered. -/
theorem stop_why {K : Nat} (hK : Stop (whyT age keep now l) l.length K) {i : Nat} (hi : i < K) : ((nth d0 l i).2 ≤ now - age ∧ whyT age keep now l i = 1) ∨ (¬ (nth d0 l i).2 ≤ now - age ∧ whyT age keep now l i = 2 ∧ keep < (l.length : Int) - i) := by
  have h := hK.on i hi
  unfold whyT at h ⊢
  by_cases c1 : (nth d0 l i).2 + age ≤ now
  · exact .inl ⟨by omega, if_pos c1⟩
  · rw [if_neg c1] at h ⊢
    by_cases c2 : keep < (l.length : Int) - i
    · exact .inr ⟨by omega, if_pos c2, c2⟩
    · rw [if_neg c2] at h; exact absurd rfl h
theorem nth_take {L : List (Int × Int)} {K i : Nat} (h : i < K) : nth d0 (L.take K) i = nth d0 L i := by
  unfold nth
  rw [List.getElem?_take, if_pos h]
theorem nth_drop {L : List (Int × Int)} {K i : Nat} : nth d0 (L.drop K) i = nth d0 L (K + i) := by
  unfold nth
  rw [List.getElem?_drop]
end
theorem all2 {l : List (Int × Int)} : ((l.map pgA).all fun e => e.length == 2) = true := by simp [pgA]
theorem pg_split {x : QD} {X Y : List (Int × Int)} {a : Int × Int} (h : x.pages = X ++ a :: Y) : ∃ QX s QY, x.Q 0 = QX ++ s :: QY ∧ QX.map x.pg = X ∧ x.pg s = a ∧ QY.map x.pg = Y := by
  unfold QD.pages at h
  obtain ⟨QX, Q1, e1, e2, e3⟩ := List.map_eq_append_iff.1 h
  obtain ⟨s, QY, e4, e5, e6⟩ := List.map_eq_cons_iff.1 e3
  exact ⟨QX, s, QY, by rw [e1, e4], e2, e5, e6⟩
end Go.Pol
namespace Go.Proofs.Ytggkpagngnnjjaa
open Go Go.Am Go.Pol
theorem wkx_Ta {p : Prop} (h : p := by (refine weak_s (by exact oneOf_of rfl) (by exact subH_of rfl) (by intro hs; (repeat' ((try (conv => whnf)); first | with_reducible exact True.intro | with_reducible refine And.intro ?_ ?_ | (with_reducible refine WkX.mk ?_; first | exact wk_undef | exact wk_int (by first | rfl | omega | (dsimp only; omega)) | exact wk_bool rfl | exact wk_ptr rfl (by first | decide | simp | omega) | exact wk_sl rfl (by first | decide | simp | omega) (by first | rfl | omega | simp) (by first | omega | simp) (by first | omega | simp) | exact wk_own rfl (by first | decide | simp | omega) | exact wk_nil0 (by first | rfl | simp) | exact wk_slown rfl (by first | decide | omega | (simp; done)) (by first | omega | (simp; done)) (by first | rfl | omega | (simp; done) | (simp; omega)) | exact wk_plain hs (by (first | assumption | exact plain_int | exact plain_bool | exact plain_undef | exact plain_nils | exact plain_nilp | exact plain_nilf | exact plain_str | with_reducible apply plain_pg | with_reducible apply plain_pgs | with_reducible apply plain_pgA | with_reducible apply plain_val | with_reducible apply plain_ints | with_reducible apply plain_none | with_reducible apply plain_stP | with_reducible apply plain_st4 | with_reducible apply plain_st5)) | (with_reducible refine wk_fn ?_ ?_ <;> repeat' (first | with_reducible exact wkl_nil | with_reducible refine wkl_cons ?_ ?_ | exact wk_ptr rfl (by first | decide | simp | omega))) | (with_reducible refine wk_agg ?_; repeat' (first | with_reducible exact wkl_nil | with_reducible refine wkl_cons ?_ ?_ | exact wk_int (by first | rfl | omega | (dsimp only; omega)) | exact wk_bool rfl)) | exact wk_yld rfl (by first | decide | simp | omega))))) (by intro hs; (try dsimp only); (repeat' (first | with_reducible exact wko_nil | refine wko_plain hs (by first | decide | omega | simp) rfl (by first | rfl) (by (first | with_reducible assumption | with_reducible apply plain_c4 | with_reducible apply plain_flat pgA_plain | with_reducible apply cells_plain | with_reducible apply ends_plain | with_reducible apply memI_plain _ _ | with_reducible apply pgA_plain _ | with_reducible apply qcells_plain | with_reducible apply qends_plain | with_reducible apply plain_map (fun _ => plain_int) | with_reducible apply plain_map (fun _ => plain_bool) | ((repeat' (first | exact plain_all0 | refine plain_all2 ?_ ?_ | exact plain_int | first | assumption | exact plain_int | exact plain_bool | exact plain_undef | exact plain_nils | exact plain_nilp | exact plain_nilf | exact plain_str | with_reducible apply plain_pg | with_reducible apply plain_pgs | with_reducible apply plain_pgA | with_reducible apply plain_val | with_reducible apply plain_ints | with_reducible apply plain_none | with_reducible apply plain_stP | with_reducible apply plain_st4 | with_reducible apply plain_st5)); done) | ((refine plain_app ?_ ?_) <;> (first | with_reducible assumption | with_reducible apply plain_c4 | with_reducible apply plain_flat pgA_plain | with_reducible apply cells_plain | with_reducible apply ends_plain | with_reducible apply memI_plain _ _ | with_reducible apply pgA_plain _ | with_reducible apply qcells_plain | with_reducible apply qends_plain | with_reducible apply plain_map (fun _ => plain_int) | with_reducible apply plain_map (fun _ => plain_bool) | ((repeat' (first | exact plain_all0 | refine plain_all2 ?_ ?_ | exact plain_int | first | assumption | exact plain_int | exact plain_bool | exact plain_undef | exact plain_nils | exact plain_nilp | exact plain_nilf | exact plain_str | with_reducible apply plain_pg | with_reducible apply plain_pgs | with_reducible apply plain_pgA | with_reducible apply plain_val | with_reducible apply plain_ints | with_reducible apply plain_none | with_reducible apply plain_stP | with_reducible apply plain_st4 | with_reducible apply plain_st5)); done))))) ?_ | refine wko_cells (by first | decide | omega | simp) rfl (by repeat' (first | with_reducible exact wkl_nil | with_reducible refine wkl_cons ?_ ?_ | (first | exact wk_undef | exact wk_int (by first | rfl | omega | (dsimp only; omega)) | exact wk_bool rfl | exact wk_ptr rfl (by first | decide | simp | omega) | exact wk_sl rfl (by first | decide | simp | omega) (by first | rfl | omega | simp) (by first | omega | simp) (by first | omega | simp) | exact wk_own rfl (by first | decide | simp | omega) | exact wk_nil0 (by first | rfl | simp) | exact wk_slown rfl (by first | decide | omega | (simp; done)) (by first | omega | (simp; done)) (by first | rfl | omega | (simp; done) | (simp; omega)) | exact wk_plain hs (by (first | assumption | exact plain_int | exact plain_bool | exact plain_undef | exact plain_nils | exact plain_nilp | exact plain_nilf | exact plain_str | with_reducible apply plain_pg | with_reducible apply plain_pgs | with_reducible apply plain_pgA | with_reducible apply plain_val | with_reducible apply plain_ints | with_reducible apply plain_none | with_reducible apply plain_stP | with_reducible apply plain_st4 | with_reducible apply plain_st5)) | (with_reducible refine wk_fn ?_ ?_ <;> repeat' (first | with_reducible exact wkl_nil | with_reducible refine wkl_cons ?_ ?_ | exact wk_ptr rfl (by first | decide | simp | omega))) | (with_reducible refine wk_agg ?_; repeat' (first | with_reducible exact wkl_nil | with_reducible refine wkl_cons ?_ ?_ | exact wk_int (by first | rfl | omega | (dsimp only; omega)) | exact wk_bool rfl)) | exact wk_yld rfl (by first | decide | simp | omega)))) ?_ | refine wko_loop (by first | decide | omega | simp) rfl (by ((try subst hF); (try subst hF2); exact wkl_sd (wkf_sget (by (repeat' ((try (conv => whnf)); first | with_reducible exact True.intro | with_reducible refine And.intro ?_ ?_ | (with_reducible refine WkX.mk ?_; first | exact wk_undef | exact wk_int (by first | rfl | omega | (dsimp only; omega)) | exact wk_bool rfl | exact wk_ptr rfl (by first | decide | simp | omega) | exact wk_sl rfl (by first | decide | simp | omega) (by first | rfl | omega | simp) (by first | omega | simp) (by first | omega | simp) | exact wk_own rfl (by first | decide | simp | omega) | exact wk_nil0 (by first | rfl | simp) | exact wk_slown rfl (by first | decide | omega | (simp; done)) (by first | omega | (simp; done)) (by first | rfl | omega | (simp; done) | (simp; omega)) | exact wk_plain hs (by (first | assumption | exact plain_int | exact plain_bool | exact plain_undef | exact plain_nils | exact plain_nilp | exact plain_nilf | exact plain_str | with_reducible apply plain_pg | with_reducible apply plain_pgs | with_reducible apply plain_pgA | with_reducible apply plain_val | with_reducible apply plain_ints | with_reducible apply plain_none | with_reducible apply plain_stP | with_reducible apply plain_st4 | with_reducible apply plain_st5)) | (with_reducible refine wk_fn ?_ ?_ <;> repeat' (first | with_reducible exact wkl_nil | with_reducible refine wkl_cons ?_ ?_ | exact wk_ptr rfl (by first | decide | simp | omega))) | (with_reducible refine wk_agg ?_; repeat' (first | with_reducible exact wkl_nil | with_reducible refine wkl_cons ?_ ?_ | exact wk_int (by first | rfl | omega | (dsimp only; omega)) | exact wk_bool rfl)) | exact wk_yld rfl (by first | decide | simp | omega)))))))) ?_ | exact wko_nil))))) : p := h
section
variable {age ref keep : Int} {l o : List (Int × Int)}
theorem plain_left {l : List (Int × Int)} {b : Bool} : Plain (.tup [.isl (l.map pgA), .bool b]) := plain_tup fun x hx => by
  simp only [List.mem_cons, List.not_mem_nil, or_false] at hx
  rcases hx with rfl | rfl
  · exact plain_pgs
  · exact plain_bool
set_option maxHeartbeats 1600000 in
theorem k_left (ho : ∀ i, i < o.length → i < l.length ∧ (nth d0 o i).1 = (nth d0 l i).1) (hl : o.length ≤ l.length) (hb : o.length ≤ 100000) : PureC Try.prog G0 22 [stP age ref keep l, .isl (o.map pgA)] (.tup [.isl ((l.drop o.length).map pgA), .bool true]) := by
  refine pure_x hmix b22 plainG ⟨plain_stP, plain_pgs, trivial⟩ plain_left rfl ?_
  unfold c22 stP
  ((repeat' ((try (conv => whnf)); first | (with_reducible first | refine run_cons ?_ | refine runq_cons ?_ | refine code_seq ?_ | refine code_reg ?_ | refine code_cond ?_ | refine run_nil ?_ | refine runq_nil ?_ | refine rund_op rfl ?_ | refine rund_nil ?_ | refine code_block ?_ | refine code_skip ?_ | refine code_exit ?_ | refine code_ret ?_ | refine code_range ?_ | refine rund_fast (by decide +kernel) ?_ | refine rund_slow (by decide +kernel) ?_ | refine br_tt ?_ | refine br_ff ?_ | refine br_n ?_ | refine br_and ?_ | refine br_or ?_ | refine br_t (by assumption) ?_ | refine br_f (by assumption) ?_ | refine eq_i64 (by omega) ?_ | refine el_tn ?_) | (with_reducible refine br_d ?_ ?_ <;> intro hsp <;> first | (exfalso; omega) | skip) | ((with_reducible refine ck_x ?_ ?_); focus (first | omega | rfl | assumption | decide | (simp only [List.length_map, List.length_cons, List.length_nil]; omega))) | (with_reducible first | refine eq_tn ?_ | refine eq_tn1 ?_ | refine eq_tn2 ?_ | refine eq_m1 ?_ | refine eq_m2 ?_ | refine eq_zm ?_ | refine eq_z ?_ | refine len_map ?_ | refine len_sl ?_ | refine len_nils ?_ | refine len_own' ?_ | refine len_isl ?_ | refine eq_u8 (by omega) ?_ | refine eq_u16 (by omega) ?_) | (with_reducible first | refine eq_rfl ?_ | refine ChkX.mk (by kernel_rfl) ?_ | refine code_q rfl ?_ | refine code_d (by decide +kernel) ?_ | refine end_go rfl ?_) | refine len_map ?_ | refine len_isl ?_ | refine el_of rfl rfl ?_ | refine del_own ?_ | refine del_own' rfl ?_ | refine as_go rfl ?_ | refine rd_go rfl ?_ | refine rg_end rfl ?_ | refine flat_ownX ?_ | (with_reducible refine br_b ?_ ?_ <;> intro hsp))) <;> (try (conv => whnf)))
  (refine loop_x [1, 2] (fun (i : Nat) => [(6, .int .i64 (i : Nat))]) (fun (i : Nat) => ⟨[(0, .cells [.int .i64 age, .int .i64 ref, .int .i64 keep, .isl (l.map pgA)])], 1⟩) (fun (i : Nat) => i ≤ o.length) (fun (i : Nat) => o.length - i) (0) [] rfl (fun _ => by first | exact Nat.zero_le _ | (dsimp only; omega)) ?_ (by ((try (conv => whnf)); exact wkx_Ta)) ?_)
  · exact Nat.zero_le _
  intro i hi
  by_cases hil : i < o.length
  · obtain ⟨h1, h2⟩ := ho i hil
    have ha : nth d0 l i = ((nth d0 o i).1, (nth d0 l i).2) := Prod.ext h2.symm rfl
    ((repeat' ((try (conv => whnf)); first | (with_reducible first | refine run_cons ?_ | refine runq_cons ?_ | refine code_seq ?_ | refine code_reg ?_ | refine code_cond ?_ | refine run_nil ?_ | refine runq_nil ?_ | refine rund_op rfl ?_ | refine rund_nil ?_ | refine code_block ?_ | refine code_skip ?_ | refine code_exit ?_ | refine code_ret ?_ | refine code_range ?_ | refine rund_fast (by decide +kernel) ?_ | refine rund_slow (by decide +kernel) ?_ | refine br_tt ?_ | refine br_ff ?_ | refine br_n ?_ | refine br_and ?_ | refine br_or ?_ | refine br_t (by assumption) ?_ | refine br_f (by assumption) ?_ | refine eq_i64 (by omega) ?_ | refine el_tn ?_) | (with_reducible refine br_d ?_ ?_ <;> intro hsp <;> first | (exfalso; omega) | skip) | ((with_reducible refine ck_x ?_ ?_); focus (first | omega | rfl | assumption | decide | (simp only [List.length_map, List.length_cons, List.length_nil]; omega))) | (with_reducible first | refine eq_tn ?_ | refine eq_tn1 ?_ | refine eq_tn2 ?_ | refine eq_m1 ?_ | refine eq_m2 ?_ | refine eq_zm ?_ | refine eq_z ?_ | refine len_map ?_ | refine len_sl ?_ | refine len_nils ?_ | refine len_own' ?_ | refine len_isl ?_ | refine eq_u8 (by omega) ?_ | refine eq_u16 (by omega) ?_) | refine el_mapE pg_len h1 ha ?_ | refine el_map d0 pg_len hil ?_ | (with_reducible first | refine eq_rfl ?_ | refine ChkX.mk (by kernel_rfl) ?_ | refine code_q rfl ?_ | refine code_d (by decide +kernel) ?_ | refine end_go rfl ?_) | refine len_map ?_ | refine len_isl ?_ | refine el_of rfl rfl ?_ | refine del_own ?_ | refine del_own' rfl ?_ | refine as_go rfl ?_ | refine rd_go rfl ?_ | refine rg_end rfl ?_ | refine flat_ownX ?_ | (with_reducible refine br_b ?_ ?_ <;> intro hsp))) <;> (try (conv => whnf)))
    all_goals first | exact absurd rfl hsp | skip
    all_goals exact next_x (i + 1) [] (by (try dsimp only); omega) (by first | omega | (dsimp only; omega)) rfl (by exact wkx_Ta)
  · ((repeat' ((try (conv => whnf)); first | (with_reducible first | refine run_cons ?_ | refine runq_cons ?_ | refine code_seq ?_ | refine code_reg ?_ | refine code_cond ?_ | refine run_nil ?_ | refine runq_nil ?_ | refine rund_op rfl ?_ | refine rund_nil ?_ | refine code_block ?_ | refine code_skip ?_ | refine code_exit ?_ | refine code_ret ?_ | refine code_range ?_ | refine rund_fast (by decide +kernel) ?_ | refine rund_slow (by decide +kernel) ?_ | refine br_tt ?_ | refine br_ff ?_ | refine br_n ?_ | refine br_and ?_ | refine br_or ?_ | refine br_t (by assumption) ?_ | refine br_f (by assumption) ?_ | refine eq_i64 (by omega) ?_ | refine el_tn ?_) | (with_reducible refine br_d ?_ ?_ <;> intro hsp <;> first | (exfalso; omega) | skip) | ((with_reducible refine ck_x ?_ ?_); focus (first | omega | rfl | assumption | decide | (simp only [List.length_map, List.length_cons, List.length_nil]; omega) | exact ⟨by rw [List.length_map]; exact hl, Nat.le_refl _, Nat.le_refl _, .inr all2⟩)) | (with_reducible first | refine eq_tn ?_ | refine eq_tn1 ?_ | refine eq_tn2 ?_ | refine eq_m1 ?_ | refine eq_m2 ?_ | refine eq_zm ?_ | refine eq_z ?_ | refine len_map ?_ | refine len_sl ?_ | refine len_nils ?_ | refine len_own' ?_ | refine len_isl ?_ | refine eq_u8 (by omega) ?_ | refine eq_u16 (by omega) ?_) | (with_reducible first | refine eq_rfl ?_ | refine ChkX.mk (by kernel_rfl) ?_ | refine code_q rfl ?_ | refine code_d (by decide +kernel) ?_ | refine end_go rfl ?_) | refine len_map ?_ | refine len_isl ?_ | refine el_of rfl rfl ?_ | refine del_own ?_ | refine del_own' rfl ?_ | refine as_go rfl ?_ | refine rd_go rfl ?_ | refine rg_end rfl ?_ | refine flat_ownX ?_ | (with_reducible refine br_b ?_ ?_ <;> intro hsp))) <;> (try (conv => whnf)))
    exact end_plain (by rw [List.take_length, ← List.map_drop]) plain_left
end
section
variable {x : QD}
theorem q_reuseP (h : GQ x) {X Y : List (Int × Int)} {a : Int × Int} (hp : x.pages = X ++ a :: Y) :
    ∃ x', GQ x' ∧ x'.age = x.age ∧ x'.ref = x.ref ∧ x'.keep = x.keep ∧ x'.pages = X ++ Y ∧ LocQ 14 [.int .i64 a.1] (queS x) (.tup [.int .i64 a.2, .int .i64 0]) (queS x') := by
  obtain ⟨QX, s, QY, e1, e2, e3, e4⟩ := pg_split hp
  obtain ⟨p, hp1, hp2, hp3⟩ := h.vn (s := s) (by rw [e1]; simp)
  obtain ⟨x', g, r1, r2, r3, r4, r5, r6, hl⟩ := q_reuse h hp2 e1
  have ea : a = ((p : Int), x.W s) := by rw [← e3]; unfold QD.pg; rw [hp2]
  subst ea
  exact ⟨x', g, r1, r2, r3, by rw [r4, e2, e4], hl⟩
set_option maxRecDepth 20000 in
theorem q_done (h : GQ x) {X Y : List (Int × Int)} {a : Int × Int} (hp : x.pages = X ++ a :: Y) :
    ∃ x', GQ x' ∧ x'.age = x.age ∧ x'.ref = x.ref ∧ x'.keep = x.keep ∧ x'.pages = X ++ Y ∧ LocQ 23 [.int .i64 a.1, .bool false] (queS x) (.int .i64 0) (queS x') := by
  obtain ⟨x', g, r1, r2, r3, r4, hl⟩ := q_reuseP h hp
  refine ⟨x', g, r1, r2, r3, r4, LocQ.mk (loc_x hmix b23 rfl ?_)⟩
  unfold c23
  ((repeat' ((try (conv => whnf)); first | (with_reducible first | refine run_cons ?_ | refine runq_cons ?_ | refine code_seq ?_ | refine code_reg ?_ | refine code_cond ?_ | refine run_nil ?_ | refine runq_nil ?_ | refine rund_op rfl ?_ | refine rund_nil ?_ | refine code_block ?_ | refine code_skip ?_ | refine code_exit ?_ | refine code_ret ?_ | refine code_range ?_ | refine rund_fast (by decide +kernel) ?_ | refine rund_slow (by decide +kernel) ?_ | refine br_tt ?_ | refine br_ff ?_ | refine br_n ?_ | refine br_and ?_ | refine br_or ?_ | refine br_t (by assumption) ?_ | refine br_f (by assumption) ?_ | refine eq_i64 (by omega) ?_ | refine el_tn ?_) | (with_reducible refine br_d ?_ ?_ <;> intro hsp <;> first | (exfalso; omega) | skip) | ((with_reducible refine ck_x ?_ ?_); focus (first | omega | rfl | assumption | decide | (simp only [List.length_map, List.length_cons, List.length_nil]; omega))) | (with_reducible first | refine eq_tn ?_ | refine eq_tn1 ?_ | refine eq_tn2 ?_ | refine eq_m1 ?_ | refine eq_m2 ?_ | refine eq_zm ?_ | refine eq_z ?_ | refine len_map ?_ | refine len_sl ?_ | refine len_nils ?_ | refine len_own' ?_ | refine len_isl ?_ | refine eq_u8 (by omega) ?_ | refine eq_u16 (by omega) ?_) | (with_reducible first | refine eq_rfl ?_ | refine ChkX.mk (by kernel_rfl) ?_ | refine code_q rfl ?_ | refine code_d (by decide +kernel) ?_ | refine end_go rfl ?_) | refine cx_que hl rfl rfl rfl rfl (by decide) (by simp [plain_int]) plain_ints rfl ?_ | refine len_map ?_ | refine len_isl ?_ | refine el_of rfl rfl ?_ | refine del_own ?_ | refine del_own' rfl ?_ | refine as_go rfl ?_ | refine rd_go rfl ?_ | refine rg_end rfl ?_ | refine flat_ownX ?_ | (with_reducible refine br_b ?_ ?_ <;> intro hsp))) <;> (try (conv => whnf)))
  all_goals exact end_que (wk_int rfl) rfl rfl rfl rfl
/-- One refusal more. -/
def refUp (r : Int) : Int := if r < 1000000000000 then r + 1 else r
theorem GQ.up (h : GQ x) : GQ { x with ref := refUp x.ref } :=
  ⟨h.good, h.age_ok, h.keep_ok, by have := h.ref_ok; unfold refUp; dsimp only; split <;> omega, h.rng, h.srt, h.at_, h.fre⟩
end
end Go.Proofs.Ytggkpagngnnjjaa
