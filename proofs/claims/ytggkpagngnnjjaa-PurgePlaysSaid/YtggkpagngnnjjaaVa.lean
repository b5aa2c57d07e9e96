/-
  PurgeOrder: plain facts; Dirty of a queue.
-/
import Derived.Test.YtggkpagngnnjjaaRb
import Derived.Test.YtggkpagngnnjjaaTa
set_option linter.unusedSimpArgs false
set_option linter.unusedVariables false
namespace Go.Pol
open Go.Am
theorem GQ.strict {x : QD} (h : GQ x) : x.pages.Pairwise ltP := by
  unfold QD.pages
  rw [List.pairwise_map]
  exact h.srt
/-- The pages of extents. -/
def sp1 (e : Ex) : List (Int × Int) := (List.range (e.2.1 - e.1).toNat).map fun j => (e.1 + (j : Nat), e.2.2)
def spread (E : List Ex) : List (Int × Int) := E.flatMap sp1
def exOk (e : Ex) : Prop := 0 ≤ e.1 ∧ e.2.1 ≤ 1024 ∧ e.1 < e.2.1
/-- How many pages the first extents have. -/
def cntE (E : List Ex) (i : Nat) : Nat := (spread (E.take i)).length
/-! A slice from which pages are taken. -/
theorem over_nil (cs : List AV) (o : Nat) : over cs o [] = cs := by simp [over]
theorem appV_none {l : List (Nat × AObj)} {nx d o n : Nat} {cs : List AV} (hd : lk l d = some (.cells cs)) (hc : o + n * 2 ≤ cs.length) : appV (lk l) nx 2 16 (.sl d o n n 2) (.isl []) = some (.sl d o n n 2, [(d, some (.cells cs))], [d]) := by
  simp only [appV, srcV, cellsAt, hd]
  simp [over_nil, hc]
theorem appV_none2 {l : List (Nat × AObj)} {nx d o n : Nat} {cs : List AV} {L : List (Int × Int)} (hL : L.length = 0) (hd : lk l d = some (.cells cs)) (hc : o + n * 2 ≤ cs.length) : appV (lk l) nx 2 16 (.sl d o n n 2) (.isl (L.map pgA)) = some (.sl d o n n 2, [(d, some (.cells cs))], [d]) := by
  obtain rfl := List.eq_nil_of_length_eq_zero hL
  exact appV_none hd hc
/-- The slice of what is left. -/
def rV : Nat → AV
  | 0 => .isl []
  | m + 1 => .sl 6 0 (m + 1) (m + 1) 2
def rH (R : List (Int × Int)) (J : List AV) : Nat → List (Nat × AObj)
  | 0 => []
  | _ + 1 => [(6, .cells (flat pgA R ++ J))]
theorem src_pg {l : List (Nat × AObj)} {R : List (Int × Int)} {m : Nat} (h : R.length = m) : srcV (lk l) 2 (.isl (R.map pgA)) = some (flat pgA R, m, []) := by
  simp only [srcV]
  rw [if_pos all2, List.length_map, h]
  rfl
end Go.Pol
namespace Go.Proofs.Ytggkpagngnnjjaa
open Go Go.Am Go.Pol
section
variable {x : QD}
set_option maxRecDepth 20000 in
theorem q_dirty_rng (h : GQ x) {p st : Int} (hp : ¬ okPg (p, st)) : LocQ 27 [.int .i64 p, .int .i64 st] (queS x) (.int .i64 7) (queS x) := by
  have hk := k_page p st
  unfold okPg at hp
  dsimp only at hp
  rw [if_pos (by omega)] at hk
  refine LocQ.mk (loc_x hmix b27 rfl ?_)
  unfold c27
  ((repeat' ((try (conv => whnf)); first | (with_reducible first | refine run_cons ?_ | refine runq_cons ?_ | refine code_seq ?_ | refine code_reg ?_ | refine code_cond ?_ | refine run_nil ?_ | refine runq_nil ?_ | refine rund_op rfl ?_ | refine rund_nil ?_ | refine code_block ?_ | refine code_skip ?_ | refine code_exit ?_ | refine code_ret ?_ | refine code_range ?_ | refine rund_fast (by decide +kernel) ?_ | refine rund_slow (by decide +kernel) ?_ | refine br_tt ?_ | refine br_ff ?_ | refine br_n ?_ | refine br_and ?_ | refine br_or ?_ | refine br_t (by assumption) ?_ | refine br_f (by assumption) ?_ | refine eq_i64 (by omega) ?_ | refine el_tn ?_) | (with_reducible refine br_d ?_ ?_ <;> intro hsp <;> first | (exfalso; omega) | skip) | ((with_reducible refine ck_x ?_ ?_); focus (first | omega | rfl | assumption | decide | (simp only [List.length_map, List.length_cons, List.length_nil]; omega))) | (with_reducible first | refine eq_tn ?_ | refine eq_tn1 ?_ | refine eq_tn2 ?_ | refine eq_m1 ?_ | refine eq_m2 ?_ | refine eq_zm ?_ | refine eq_z ?_ | refine len_map ?_ | refine len_sl ?_ | refine len_nils ?_ | refine len_own' ?_ | refine len_isl ?_ | refine eq_u8 (by omega) ?_ | refine eq_u16 (by omega) ?_) | (with_reducible first | refine eq_rfl ?_ | refine ChkX.mk (by kernel_rfl) ?_ | refine code_q rfl ?_ | refine code_d (by decide +kernel) ?_ | refine end_go rfl ?_) | (refine cx_in hmix b38 rfl ?_; unfold c38) | refine cx_pure (hk) ?_ | refine qcx (hk) ?_ | refine dcx_pure (hk) ?_ | refine len_map ?_ | refine len_isl ?_ | refine el_of rfl rfl ?_ | refine del_own ?_ | refine del_own' rfl ?_ | refine as_go rfl ?_ | refine rd_go rfl ?_ | refine rg_end rfl ?_ | refine flat_ownX ?_ | (with_reducible refine br_b ?_ ?_ <;> intro hsp))) <;> (try (conv => whnf)))
  all_goals exact end_que (wk_int rfl) rfl rfl rfl rfl
set_option maxRecDepth 20000 in
theorem q_dirty_twice (h : GQ x) {p st : Int} (hp : okPg (p, st)) (hm : ∃ a, a ∈ x.pages ∧ a.1 = p) : LocQ 27 [.int .i64 p, .int .i64 st] (queS x) (.int .i64 8) (queS x) := by
  have hk := k_page p st
  have hp' := hp
  unfold okPg at hp'
  dsimp only at hp'
  rw [if_neg (by omega)] at hk
  obtain ⟨a, ha, rfl⟩ := hm
  obtain ⟨s, hs, rfl⟩ := List.mem_map.1 ha
  obtain ⟨p, hp1, hp2, hp3⟩ := h.vn hs
  rw [show (x.pg s).1 = ((p : Nat) : Int) from hp2] at *
  have g := qx_get (x := x) (pl := 1) hp1
  rw [hp3] at g
  refine LocQ.mk (loc_x hmix b27 rfl ?_)
  unfold c27
  ((repeat' ((try (conv => whnf)); first | (with_reducible first | refine run_cons ?_ | refine runq_cons ?_ | refine code_seq ?_ | refine code_reg ?_ | refine code_cond ?_ | refine run_nil ?_ | refine runq_nil ?_ | refine rund_op rfl ?_ | refine rund_nil ?_ | refine code_block ?_ | refine code_skip ?_ | refine code_exit ?_ | refine code_ret ?_ | refine code_range ?_ | refine rund_fast (by decide +kernel) ?_ | refine rund_slow (by decide +kernel) ?_ | refine br_tt ?_ | refine br_ff ?_ | refine br_n ?_ | refine br_and ?_ | refine br_or ?_ | refine br_t (by assumption) ?_ | refine br_f (by assumption) ?_ | refine eq_i64 (by omega) ?_ | refine el_tn ?_) | (with_reducible refine br_d ?_ ?_ <;> intro hsp <;> first | (exfalso; omega) | skip) | ((with_reducible refine ck_x ?_ ?_); focus (first | omega | rfl | assumption | decide | (simp only [List.length_map, List.length_cons, List.length_nil]; omega))) | (with_reducible first | refine eq_tn ?_ | refine eq_tn1 ?_ | refine eq_tn2 ?_ | refine eq_m1 ?_ | refine eq_m2 ?_ | refine eq_zm ?_ | refine eq_z ?_ | refine len_map ?_ | refine len_sl ?_ | refine len_nils ?_ | refine len_own' ?_ | refine len_isl ?_ | refine eq_u8 (by omega) ?_ | refine eq_u16 (by omega) ?_) | refine nthK_of (g) ?_ | (with_reducible first | refine eq_rfl ?_ | refine ChkX.mk (by kernel_rfl) ?_ | refine code_q rfl ?_ | refine code_d (by decide +kernel) ?_ | refine end_go rfl ?_) | (refine cx_in hmix b38 rfl ?_; unfold c38) | refine cx_pure (hk) ?_ | refine qcx (hk) ?_ | refine dcx_pure (hk) ?_ | refine len_map ?_ | refine len_isl ?_ | refine el_of rfl rfl ?_ | refine del_own ?_ | refine del_own' rfl ?_ | refine as_go rfl ?_ | refine rd_go rfl ?_ | refine rg_end rfl ?_ | refine flat_ownX ?_ | (with_reducible refine br_b ?_ ?_ <;> intro hsp))) <;> (try (conv => whnf)))
  all_goals exact end_que (wk_int rfl) rfl rfl rfl rfl
set_option maxRecDepth 20000 in
theorem q_dirty (h : GQ x) {p st : Int} (hp : okPg (p, st)) (hn : ∀ a, a ∈ x.pages → a.1 ≠ p) :
    ∃ x' X Y, GQ x' ∧ x'.age = x.age ∧ x'.ref = x.ref ∧ x'.keep = x.keep ∧ x.pages = X ++ Y ∧ x'.pages = X ++ (p, st) :: Y ∧ (∀ a, a ∈ X → ltP a (p, st)) ∧ (∀ a, a ∈ Y → ltP (p, st) a) ∧ LocQ 27 [.int .i64 p, .int .i64 st] (queS x) (.int .i64 0) (queS x') := by
  have hk := k_page p st
  have hp' := hp
  unfold okPg at hp'
  dsimp only at hp'
  rw [if_neg (by omega)] at hk
  obtain ⟨p, rfl⟩ := Int.eq_ofNat_of_zero_le hp'.1
  have h0 := h.new_page (show p < 1024 by omega) hn
  obtain ⟨x', X, Y, g1, r1, r2, r3, r4, r5, r6, r7, hl⟩ := q_put h hp h0
  refine ⟨x', X, Y, g1, r1, r2, r3, r4, r5, r6, r7, ?_⟩
  have g := qx_get (x := x) (pl := 1) (show p < 1024 by omega)
  rw [h0] at g
  refine LocQ.mk (loc_x hmix b27 rfl ?_)
  unfold c27
  ((repeat' ((try (conv => whnf)); first | (with_reducible first | refine run_cons ?_ | refine runq_cons ?_ | refine code_seq ?_ | refine code_reg ?_ | refine code_cond ?_ | refine run_nil ?_ | refine runq_nil ?_ | refine rund_op rfl ?_ | refine rund_nil ?_ | refine code_block ?_ | refine code_skip ?_ | refine code_exit ?_ | refine code_ret ?_ | refine code_range ?_ | refine rund_fast (by decide +kernel) ?_ | refine rund_slow (by decide +kernel) ?_ | refine br_tt ?_ | refine br_ff ?_ | refine br_n ?_ | refine br_and ?_ | refine br_or ?_ | refine br_t (by assumption) ?_ | refine br_f (by assumption) ?_ | refine eq_i64 (by omega) ?_ | refine el_tn ?_) | (with_reducible refine br_d ?_ ?_ <;> intro hsp <;> first | (exfalso; omega) | skip) | ((with_reducible refine ck_x ?_ ?_); focus (first | omega | rfl | assumption | decide | (simp only [List.length_map, List.length_cons, List.length_nil]; omega))) | (with_reducible first | refine eq_tn ?_ | refine eq_tn1 ?_ | refine eq_tn2 ?_ | refine eq_m1 ?_ | refine eq_m2 ?_ | refine eq_zm ?_ | refine eq_z ?_ | refine len_map ?_ | refine len_sl ?_ | refine len_nils ?_ | refine len_own' ?_ | refine len_isl ?_ | refine eq_u8 (by omega) ?_ | refine eq_u16 (by omega) ?_) | refine nthK_of (g) ?_ | (with_reducible first | refine eq_rfl ?_ | refine ChkX.mk (by kernel_rfl) ?_ | refine code_q rfl ?_ | refine code_d (by decide +kernel) ?_ | refine end_go rfl ?_) | (refine cx_in hmix b38 rfl ?_; unfold c38) | refine cx_pure (hk) ?_ | refine qcx (hk) ?_ | refine dcx_pure (hk) ?_ | refine cx_que hl rfl rfl rfl rfl (by decide) (by simp [plain_val2]) plain_none rfl ?_ | refine len_map ?_ | refine len_isl ?_ | refine el_of rfl rfl ?_ | refine del_own ?_ | refine del_own' rfl ?_ | refine as_go rfl ?_ | refine rd_go rfl ?_ | refine rg_end rfl ?_ | refine flat_ownX ?_ | (with_reducible refine br_b ?_ ?_ <;> intro hsp))) <;> (try (conv => whnf)))
  all_goals exact end_que (wk_int rfl) rfl rfl rfl rfl
end
end Go.Proofs.Ytggkpagngnnjjaa
