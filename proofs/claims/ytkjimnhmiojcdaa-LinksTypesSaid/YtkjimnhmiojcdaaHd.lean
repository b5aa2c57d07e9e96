/-
  Push, After, Take, Move.
-/
import Derived.Test.YtkjimnhmiojcdaaAmWt
import Derived.Test.YtkjimnhmiojcdaaHiA
set_option linter.unusedSimpArgs false
set_option linter.unusedVariables false
namespace Go.Proofs.Ytkjimnhmiojcdaa.Th
open Go Go.Am Go.Pol
theorem wx_Hd {p q : Prop} (hq : q) (h : HidP q → p := by (intro hQz; ((repeat' ((try (conv => whnf)); first | (with_reducible first | refine run_cons ?_ | refine runq_cons ?_ | refine code_seq ?_ | refine code_reg ?_ | refine code_cond ?_ | refine run_nil ?_ | refine runq_nil ?_ | refine rund_op rfl ?_ | refine rund_nil ?_ | refine code_block ?_ | refine code_skip ?_ | refine code_exit ?_ | refine code_ret ?_ | refine code_range ?_ | refine rund_fast (by decide +kernel) ?_ | refine rund_slow (by decide +kernel) ?_ | refine br_tt ?_ | refine br_ff ?_ | refine br_n ?_ | refine br_and ?_ | refine br_or ?_ | refine br_t (by assumption) ?_ | refine br_f (by assumption) ?_ | refine eq_i64 (by omega) ?_ | refine el_tn ?_) | ((with_reducible refine br_dt ?_ ?_); focus omega) | ((with_reducible refine br_df ?_ ?_); focus omega) | ((with_reducible apply br_dq hQz) <;> (try intro hsp hQz)) | ((with_reducible refine ck_x ?_ ?_); focus (first | omega | rfl | assumption | decide | (simp only [List.length_map, List.length_cons, List.length_nil]; omega))) | (with_reducible first | refine eq_tn ?_ | refine eq_tn1 ?_ | refine eq_tn2 ?_ | refine eq_m1 ?_ | refine eq_m2 ?_ | refine eq_zm ?_ | refine eq_z ?_ | refine len_map ?_ | refine len_sl ?_ | refine len_nils ?_ | refine len_own' ?_ | refine len_isl ?_ | refine eq_u8 (by omega) ?_ | refine eq_u16 (by omega) ?_) | refine nthK_of (ge0 hi) ?_ | refine nthK_of (ge1 hi) ?_ | refine set1K_of (by rw [cells_len]; omega) sc0 ?_ | refine set1K_of (by rw [cells_len]; omega) sc0b ?_ | refine set1K_of (by rw [cells_len]; omega) sc0z ?_ | refine set1K_of (by rw [cells_len]; omega) sc0bz ?_ | refine dropK_of (by rw [cells_len]; omega) rfl (takeK_of (by rw [List.length_drop, cells_len]; omega) (tkV hs) ?_) | (with_reducible first | refine eq_rfl ?_ | refine ChkX.mk (by kernel_rfl) ?_ | refine code_q rfl ?_ | refine code_d (by decide +kernel) ?_ | refine end_go rfl ?_) | refine cx_pool ht rfl rfl rfl (by decide) (by first | (simp [plain_int, plainV, plainI, plain_pg]; done) | fail) plain_none rfl ?_ | refine cx_pool ht rfl rfl rfl (by decide) (by first | (simp [plain_int, plain_bool, plainV, plainI, plain_pg]; done) | fail) plain_none rfl ?_ | refine cx_pool hh rfl rfl rfl (by decide) (by first | (simp [plain_int, plainV, plainI, plain_pg]; done) | fail) plain_int rfl ?_ | refine cx_pool hlt rfl rfl rfl (by decide) (by first | (simp [plain_int, plainV, plainI, plain_pg]; done) | fail) plain_int rfl ?_ | refine cx_pool ha rfl rfl rfl (by decide) (by first | (simp [plain_int, plainV, plainI, plain_pg]; done) | fail) plain_int rfl ?_ | refine cx_pool hg rfl rfl rfl (by decide) (by first | (simp [plain_int, plain_bool, plainV, plainI, plain_pg]; done) | fail) plain_none rfl ?_ | refine len_map ?_ | refine len_isl ?_ | refine el_of rfl rfl ?_ | refine del_own ?_ | refine del_own' rfl ?_ | refine as_go rfl ?_ | refine rd_go rfl ?_ | refine rg_end rfl ?_ | refine flat_ownX ?_ | refine EqLX.mk ?_ | ((with_reducible apply br_bq hQz) <;> (try intro hsp hQz)) | exact hQz.out)) <;> (try (conv => whnf))))) : p := h ⟨hq⟩
theorem wx_Hdn {p q : Prop} (hq : q) (h : HidP q → p := by (intro hQz; ((repeat' ((try (conv => whnf)); first | (with_reducible first | refine run_cons ?_ | refine runq_cons ?_ | refine code_seq ?_ | refine code_reg ?_ | refine code_cond ?_ | refine run_nil ?_ | refine runq_nil ?_ | refine rund_op rfl ?_ | refine rund_nil ?_ | refine code_block ?_ | refine code_skip ?_ | refine code_exit ?_ | refine code_ret ?_ | refine code_range ?_ | refine rund_fast (by decide +kernel) ?_ | refine rund_slow (by decide +kernel) ?_ | refine br_tt ?_ | refine br_ff ?_ | refine br_n ?_ | refine br_and ?_ | refine br_or ?_ | refine br_t (by assumption) ?_ | refine br_f (by assumption) ?_ | refine eq_i64 (by omega) ?_ | refine el_tn ?_) | ((with_reducible refine br_dt ?_ ?_); focus omega) | ((with_reducible refine br_df ?_ ?_); focus omega) | ((with_reducible apply br_dq hQz) <;> (try intro hsp hQz)) | ((with_reducible refine ck_x ?_ ?_); focus (first | omega | rfl | assumption | decide | (simp only [List.length_map, List.length_cons, List.length_nil]; omega))) | (with_reducible first | refine eq_tn ?_ | refine eq_tn1 ?_ | refine eq_tn2 ?_ | refine eq_m1 ?_ | refine eq_m2 ?_ | refine eq_zm ?_ | refine eq_z ?_ | refine len_map ?_ | refine len_sl ?_ | refine len_nils ?_ | refine len_own' ?_ | refine len_isl ?_ | refine eq_u8 (by omega) ?_ | refine eq_u16 (by omega) ?_) | refine set1K_of (by rw [cells_len]; omega) sc0 ?_ | refine set1K_of (by rw [cells_len]; omega) sc0b ?_ | refine set1K_of (by rw [cells_len]; omega) sc0z ?_ | refine set1K_of (by rw [cells_len]; omega) sc0bz ?_ | refine nthK_of (g1 _ _ _ _) ?_ | refine nthK_of (g2 _ _ _ _) ?_ | (with_reducible first | refine eq_rfl ?_ | refine ChkX.mk (by kernel_rfl) ?_ | refine code_d (by decide +kernel) ?_ | refine end_go rfl ?_) | refine cx_pool ht rfl rfl rfl (by decide) (by first | (simp [plain_int, plain_bool, plainV, plainI, plain_pg]; done) | fail) plain_none rfl ?_ | refine cx_pool hh rfl rfl rfl (by decide) (by first | (simp [plain_int, plainV, plainI, plain_pg]; done) | fail) plain_int rfl ?_ | refine cx_pool hlt rfl rfl rfl (by decide) (by first | (simp [plain_int, plainV, plainI, plain_pg]; done) | fail) plain_int rfl ?_ | refine len_map ?_ | refine len_isl ?_ | refine el_of rfl rfl ?_ | refine del_own ?_ | refine del_own' rfl ?_ | refine as_go rfl ?_ | refine rd_go rfl ?_ | refine rg_end rfl ?_ | refine flat_ownX ?_ | refine EqLX.mk ?_ | ((with_reducible apply br_bq hQz) <;> (try intro hsp hQz)) | exact hQz.out)) <;> (try (conv => whnf))))) : p := h ⟨hq⟩
section
variable {n m : Nat} {V W : Nat → PV} {L N P A B C : Nat → Int}
theorem l_edge {fr : Int} (x i : Nat) (b : Bool) (p q : Int) (hx : x < n) (hi : i < m) (he : (b = true ∧ p = -1 ∧ q = A i) ∨ (b = false ∧ p = B i ∧ q = -1)) (hp : p = -1 ∨ ∃ a : Nat, a < n ∧ p = (a : Int)) (hq : q = -1 ∨ ∃ a : Nat, a < n ∧ q = (a : Int)) (hC : 0 ≤ C i ∧ C i < 9000) :
    LocP 33 [.int .i64 (x : Nat), .int .i64 (i : Nat), .bool b] n m (poolB n m fr V W L N P A B C) (.tup []) (poolB n m fr V W (updI L x i) (tieN N x p q) (tieP P x p q) (tieA A i x p) (tieA B i x q) (updI C i (C i + 1))) := by
  have ht := l_tie (n := n) (m := m) (fr := fr) (V := V) (W := W) (L := L) (N := N) (P := P) (A := A) (B := B) (C := C) x i p q hx hi hp hq hC
  refine LocP.mk (loc_x hmix b33 rfl ?_)
  unfold c33
  rcases he with ⟨rfl, rfl, rfl⟩ | ⟨rfl, rfl, rfl⟩
  · (refine wx_Hd ?_; repeat' (first | with_reducible refine And.intro ?_ ?_ | intro hsp))
    exact end_pool wk_none rfl rfl rfl
  · (refine wx_Hd ?_; repeat' (first | with_reducible refine And.intro ?_ ?_ | intro hsp))
    exact end_pool wk_none rfl rfl rfl
theorem l_push (f s i : Nat) (v w : PV) (b : Bool) (p q : Int) (hf : f ≤ s) (hs : s < n) (hn : n ≤ 100000) (hu : ∀ t, f ≤ t → t < s → L t ≠ -1) (hl : L s = -1) (hi : i < m) (he : (b = true ∧ p = -1 ∧ q = A i) ∨ (b = false ∧ p = B i ∧ q = -1)) (hp : p = -1 ∨ ∃ a : Nat, a < n ∧ p = (a : Int)) (hq : q = -1 ∨ ∃ a : Nat, a < n ∧ q = (a : Int)) (hC : 0 ≤ C i ∧ C i < 9000) :
    LocP 8 [.int .i64 (i : Nat), .agg [v.1, w.1], .bool b] n m (poolB n m (f : Nat) V W L N P A B C) (.tup [.int .i64 (s : Nat), .int .i64 0]) (poolB n m (s : Nat) (updV V s v) (updV W s w) (updI L s i) (tieN N s p q) (tieP P s p q) (tieA A i s p) (tieA B i s q) (updI C i (C i + 1))) := by
  have ht := l_edge (n := n) (m := m) (fr := (s : Nat)) (V := updV V s v) (W := updV W s w) (L := L) (N := N) (P := P) (A := A) (B := B) (C := C) s i b p q hs hi he hp hq hC
  have hh := l_has (n := n) (m := m) (fr := (f : Nat)) (V := V) (W := W) (L := L) (N := N) (P := P) (A := A) (B := B) (C := C) i (by omega) hi
  have hlt := l_least (n := n) (m := m) (V := V) (W := W) (L := L) (N := N) (P := P) (A := A) (B := B) (C := C) f s hf hs hn hu hl
  refine LocP.mk (loc_x hmix b8 rfl ?_)
  unfold c8
  (refine wx_Hd ?_; repeat' (first | with_reducible refine And.intro ?_ ?_ | intro hsp))
  exact end_pool (wk_ints rfl rfl) rfl rfl rfl
theorem l_push_full (f i : Nat) (v w : PV) (b : Bool) (hf : f ≤ n) (hn0 : 0 < n) (hn : n ≤ 100000) (hu : ∀ t, f ≤ t → t < n → L t ≠ -1) (hi : i < m) :
    LocP 8 [.int .i64 (i : Nat), .agg [v.1, w.1], .bool b] n m (poolB n m (f : Nat) V W L N P A B C) (.tup [.int .i64 0, .int .i64 5]) (poolB n m (n : Nat) V W L N P A B C) := by
  have hh := l_has (n := n) (m := m) (fr := (f : Nat)) (V := V) (W := W) (L := L) (N := N) (P := P) (A := A) (B := B) (C := C) i (by omega) hi
  have hlt := l_least_no (n := n) (m := m) (V := V) (W := W) (L := L) (N := N) (P := P) (A := A) (B := B) (C := C) f hf hn hu
  refine LocP.mk (loc_x hmix b8 rfl ?_)
  unfold c8
  (refine wx_Hd ?_; repeat' (first | with_reducible refine And.intro ?_ ?_ | intro hsp))
  exact end_pool (wk_ints rfl rfl) rfl rfl rfl
theorem l_push_no {fr : Int} (i : Int) (v w : PV) (b : Bool) (hn0 : 0 < n) (hi : i < 0 ∨ (m : Int) ≤ i) :
    LocP 8 [.int .i64 i, .agg [v.1, w.1], .bool b] n m (poolB n m fr V W L N P A B C) (.tup [.int .i64 0, .int .i64 7]) (poolB n m fr V W L N P A B C) := by
  have hh := l_hasnt (n := n) (m := m) (fr := fr) (V := V) (W := W) (L := L) (N := N) (P := P) (A := A) (B := B) (C := C) i (by omega) hi
  refine LocP.mk (loc_x hmix b8 rfl ?_)
  unfold c8
  (refine wx_Hd ?_; repeat' (first | with_reducible refine And.intro ?_ ?_ | intro hsp))
  all_goals exact end_pool (wk_ints rfl rfl) rfl rfl rfl
theorem l_after (f s x i : Nat) (v w : PV) (q : Int) (hf : f ≤ s) (hs : s < n) (hn : n ≤ 100000) (hu : ∀ t, f ≤ t → t < s → L t ≠ -1) (hl : L s = -1) (hx : x < n) (hi : i < m) (hLx : L x = (i : Nat)) (hNx : N x = q) (hq : q = -1 ∨ ∃ a : Nat, a < n ∧ q = (a : Int)) (hC : 0 ≤ C i ∧ C i < 9000) :
    LocP 10 [.int .i64 (x : Nat), .agg [v.1, w.1]] n m (poolB n m (f : Nat) V W L N P A B C) (.tup [.int .i64 (s : Nat), .int .i64 0]) (poolB n m (s : Nat) (updV V s v) (updV W s w) (updI L s i) (tieN N s (x : Nat) q) (tieP P s (x : Nat) q) (tieA A i s (x : Nat)) (tieA B i s q) (updI C i (C i + 1))) := by
  have ht := l_tie (n := n) (m := m) (fr := (s : Nat)) (V := updV V s v) (W := updV W s w) (L := L) (N := N) (P := P) (A := A) (B := B) (C := C) s i (x : Nat) q hs hi (.inr ⟨x, hx, rfl⟩) hq hC
  have hh := l_used (n := n) (m := m) (fr := (f : Nat)) (V := V) (W := W) (L := L) (N := N) (P := P) (A := A) (B := B) (C := C) x hx (by omega)
  have hlt := l_least (n := n) (m := m) (V := V) (W := W) (L := L) (N := N) (P := P) (A := A) (B := B) (C := C) f s hf hs hn hu hl
  have g1 : ∀ (V W : Nat → PV) (N P : Nat → Int), (cellsB n V W L N P)[x * 5 + 2]? = some (.int .i64 (i : Nat)) := fun V W N P => (gc1 hx).trans (by rw [hLx])
  have g2 : ∀ (V W : Nat → PV) (L P : Nat → Int), (cellsB n V W L N P)[x * 5 + 3]? = some (.int .i64 q) := fun V W L P => (gc2 hx).trans (by rw [hNx])
  refine LocP.mk (loc_x hmix b10 rfl ?_)
  unfold c10
  (refine wx_Hdn ?_; repeat' (first | with_reducible refine And.intro ?_ ?_ | intro hsp))
  exact end_pool (wk_ints rfl rfl) rfl rfl rfl
theorem l_after_full (f x : Nat) (v w : PV) (hf : f ≤ n) (hn : n ≤ 100000) (hu : ∀ t, f ≤ t → t < n → L t ≠ -1) (hx : x < n) (hLx : L x ≠ -1) :
    LocP 10 [.int .i64 (x : Nat), .agg [v.1, w.1]] n m (poolB n m (f : Nat) V W L N P A B C) (.tup [.int .i64 0, .int .i64 5]) (poolB n m (n : Nat) V W L N P A B C) := by
  have hh := l_used (n := n) (m := m) (fr := (f : Nat)) (V := V) (W := W) (L := L) (N := N) (P := P) (A := A) (B := B) (C := C) x hx (by omega)
  have hlt := l_least_no (n := n) (m := m) (V := V) (W := W) (L := L) (N := N) (P := P) (A := A) (B := B) (C := C) f hf hn hu
  refine LocP.mk (loc_x hmix b10 rfl ?_)
  unfold c10
  (refine wx_Hd ?_; repeat' (first | with_reducible refine And.intro ?_ ?_ | intro hsp))
  exact end_pool (wk_ints rfl rfl) rfl rfl rfl
theorem l_after_no {fr : Int} (s : Int) (v w : PV) (hn : 0 < n) (h : ∀ k : Nat, s = (k : Int) → k < n → L k = -1) :
    LocP 10 [.int .i64 s, .agg [v.1, w.1]] n m (poolB n m fr V W L N P A B C) (.tup [.int .i64 0, .int .i64 4]) (poolB n m fr V W L N P A B C) := by
  have hh := l_unused (n := n) (m := m) (fr := fr) (V := V) (W := W) (L := L) (N := N) (P := P) (A := A) (B := B) (C := C) s hn h
  refine LocP.mk (loc_x hmix b10 rfl ?_)
  unfold c10
  (refine wx_Hd ?_; repeat' (first | with_reducible refine And.intro ?_ ?_ | intro hsp))
  all_goals exact end_pool (wk_ints rfl rfl) rfl rfl rfl
theorem l_take (f s i : Nat) (p q : Int) (hs : s < n) (hi : i < m) (hLs : L s = (i : Nat)) (hNs : N s = q) (hPs : P s = p) (hp : p = -1 ∨ ∃ a : Nat, a < n ∧ a ≠ s ∧ p = (a : Int)) (hq : q = -1 ∨ ∃ a : Nat, a < n ∧ q = (a : Int)) (hC : 0 < C i ∧ C i < 9000) :
    LocP 12 [.int .i64 (s : Nat)] n m (poolB n m (f : Nat) V W L N P A B C) (.tup [.agg [(V s).1, (W s).1], .int .i64 0]) (poolB n m (min f s : Nat) (updV V s z0) (updV W s w0) (updI L s (-1)) (unN N s p q) (unP P s p q) (unA A i p q) (unA B i q p) (updI C i (C i - 1))) := by
  have hh := l_used (n := n) (m := m) (fr := (f : Nat)) (V := V) (W := W) (L := L) (N := N) (P := P) (A := A) (B := B) (C := C) s hs (by omega)
  have ht := l_untie (n := n) (m := m) (fr := (f : Nat)) (V := V) (W := W) (L := L) (N := N) (P := P) (A := A) (B := B) (C := C) s i p q hs hi hLs hNs hPs hp hq hC
  refine LocP.mk (loc_x hmix b12 rfl ?_)
  unfold c12
  (refine wx_Hd ?_; repeat' (first | with_reducible refine And.intro ?_ ?_ | intro hsp))
  exact end_pool (wk_tup (wkl_cons (wk_plain (pool_sub ⟨_, rfl⟩ ⟨_, rfl⟩ ⟨_, rfl⟩) (by first | exact plainV | exact plain_pg | exact plain_nilp | exact plain_z | fail)) (wkl_cons (wk_int rfl) wkl_nil))) rfl rfl rfl (by omega)
theorem l_take_no {fr : Int} (s : Int) (hn : 0 < n) (h : ∀ k : Nat, s = (k : Int) → k < n → L k = -1) :
    LocP 12 [.int .i64 s] n m (poolB n m fr V W L N P A B C) (.tup [.agg [.str ByteArray.empty, .int .i64 0], .int .i64 4]) (poolB n m fr V W L N P A B C) := by
  have hh := l_unused (n := n) (m := m) (fr := fr) (V := V) (W := W) (L := L) (N := N) (P := P) (A := A) (B := B) (C := C) s hn h
  refine LocP.mk (loc_x hmix b12 rfl ?_)
  unfold c12
  (refine wx_Hd ?_; repeat' (first | with_reducible refine And.intro ?_ ?_ | intro hsp))
  all_goals exact end_pool (wk_tup (wkl_cons (wk_plain (pool_sub ⟨_, rfl⟩ ⟨_, rfl⟩ ⟨_, rfl⟩) (by first | exact plainV | exact plain_pg | exact plain_nilp | exact plain_z | fail)) (wkl_cons (wk_int rfl) wkl_nil))) rfl rfl rfl
theorem l_move {fr : Int} (s i j : Nat) (b : Bool) (p q p' q' : Int) (hs : s < n) (hi : i < m) (hj : j < m) (hLs : L s = (i : Nat)) (hNs : N s = q) (hPs : P s = p) (hp : p = -1 ∨ ∃ a : Nat, a < n ∧ a ≠ s ∧ p = (a : Int)) (hq : q = -1 ∨ ∃ a : Nat, a < n ∧ q = (a : Int)) (hC : 0 < C i ∧ C i < 9000)
    (he : (b = true ∧ p' = -1 ∧ q' = unA A i p q j) ∨ (b = false ∧ p' = unA B i q p j ∧ q' = -1)) (hp' : p' = -1 ∨ ∃ a : Nat, a < n ∧ p' = (a : Int)) (hq' : q' = -1 ∨ ∃ a : Nat, a < n ∧ q' = (a : Int)) (hC' : 0 ≤ updI C i (C i - 1) j ∧ updI C i (C i - 1) j < 9000) :
    LocP 14 [.int .i64 (s : Nat), .int .i64 (j : Nat), .bool b] n m (poolB n m fr V W L N P A B C) (.int .i64 0) (poolB n m fr V W (updI (updI L s (-1)) s j) (tieN (unN N s p q) s p' q') (tieP (unP P s p q) s p' q') (tieA (unA A i p q) j s p') (tieA (unA B i q p) j s q') (updI (updI C i (C i - 1)) j (updI C i (C i - 1) j + 1))) := by
  have hh := l_used (n := n) (m := m) (fr := fr) (V := V) (W := W) (L := L) (N := N) (P := P) (A := A) (B := B) (C := C) s hs (by omega)
  have ha := l_has (n := n) (m := m) (fr := fr) (V := V) (W := W) (L := L) (N := N) (P := P) (A := A) (B := B) (C := C) j (by omega) hj
  have ht := l_untie (n := n) (m := m) (fr := fr) (V := V) (W := W) (L := L) (N := N) (P := P) (A := A) (B := B) (C := C) s i p q hs hi hLs hNs hPs hp hq hC
  have hg := l_edge (n := n) (m := m) (fr := fr) (V := V) (W := W) (L := updI L s (-1)) (N := unN N s p q) (P := unP P s p q) (A := unA A i p q) (B := unA B i q p) (C := updI C i (C i - 1)) s j b p' q' hs hj he hp' hq' hC'
  refine LocP.mk (loc_x hmix b14 rfl ?_)
  unfold c14
  (refine wx_Hd ?_; repeat' (first | with_reducible refine And.intro ?_ ?_ | intro hsp))
  exact end_pool (wk_int rfl) rfl rfl rfl
theorem l_move_no {fr : Int} (s : Int) (j : Int) (b : Bool) (hn : 0 < n) (h : ∀ k : Nat, s = (k : Int) → k < n → L k = -1) :
    LocP 14 [.int .i64 s, .int .i64 j, .bool b] n m (poolB n m fr V W L N P A B C) (.int .i64 4) (poolB n m fr V W L N P A B C) := by
  have hh := l_unused (n := n) (m := m) (fr := fr) (V := V) (W := W) (L := L) (N := N) (P := P) (A := A) (B := B) (C := C) s hn h
  refine LocP.mk (loc_x hmix b14 rfl ?_)
  unfold c14
  (refine wx_Hd ?_; repeat' (first | with_reducible refine And.intro ?_ ?_ | intro hsp))
  all_goals exact end_pool (wk_int rfl) rfl rfl rfl
theorem l_move_bad {fr : Int} (s : Nat) (j : Int) (b : Bool) (hs : s < n) (hl : L s ≠ -1) (hj : j < 0 ∨ (m : Int) ≤ j) :
    LocP 14 [.int .i64 (s : Nat), .int .i64 j, .bool b] n m (poolB n m fr V W L N P A B C) (.int .i64 7) (poolB n m fr V W L N P A B C) := by
  have hh := l_used (n := n) (m := m) (fr := fr) (V := V) (W := W) (L := L) (N := N) (P := P) (A := A) (B := B) (C := C) s hs hl
  have ha := l_hasnt (n := n) (m := m) (fr := fr) (V := V) (W := W) (L := L) (N := N) (P := P) (A := A) (B := B) (C := C) j (by omega) hj
  refine LocP.mk (loc_x hmix b14 rfl ?_)
  unfold c14
  (refine wx_Hd ?_; repeat' (first | with_reducible refine And.intro ?_ ?_ | intro hsp))
  all_goals exact end_pool (wk_int rfl) rfl rfl rfl
end
end Go.Proofs.Ytkjimnhmiojcdaa.Th
