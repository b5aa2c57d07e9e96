/-
  Push, After, Take, Move of a pool.
  Plain law of pools: the numbers of slots and lists stand for lists of slots.
  The calls of a pool, told of lists of slots.
-/
import Derived.Test.YtkjimnhmiojcdaaAmWt
import Derived.Test.YtkjimnhmiojcdaaLiA
set_option linter.unusedSimpArgs false
set_option linter.unusedVariables false
namespace Go.Proofs.Ytkjimnhmiojcdaa
open Go Go.Am Go.Pol
theorem wx_Ld {p q : Prop} (hq : q) (h : HidP q → p := by (intro hQz; ((repeat' ((try (conv => whnf)); first | (with_reducible first | refine run_cons ?_ | refine runq_cons ?_ | refine code_seq ?_ | refine code_reg ?_ | refine code_cond ?_ | refine run_nil ?_ | refine runq_nil ?_ | refine rund_op rfl ?_ | refine rund_nil ?_ | refine code_block ?_ | refine code_skip ?_ | refine code_exit ?_ | refine code_ret ?_ | refine code_range ?_ | refine rund_fast (by decide +kernel) ?_ | refine rund_slow (by decide +kernel) ?_ | refine br_tt ?_ | refine br_ff ?_ | refine br_n ?_ | refine br_and ?_ | refine br_or ?_ | refine br_t (by assumption) ?_ | refine br_f (by assumption) ?_ | refine eq_i64 (by omega) ?_ | refine el_tn ?_) | ((with_reducible refine br_dt ?_ ?_); focus omega) | ((with_reducible refine br_df ?_ ?_); focus omega) | ((with_reducible apply br_dq hQz) <;> (try intro hsp hQz)) | ((with_reducible refine ck_x ?_ ?_); focus (first | omega | rfl | assumption | decide | (simp only [List.length_map, List.length_cons, List.length_nil]; omega))) | (with_reducible first | refine eq_tn ?_ | refine eq_tn1 ?_ | refine eq_tn2 ?_ | refine eq_m1 ?_ | refine eq_m2 ?_ | refine eq_zm ?_ | refine eq_z ?_ | refine len_map ?_ | refine len_sl ?_ | refine len_nils ?_ | refine len_own' ?_ | refine len_isl ?_ | refine eq_u8 (by omega) ?_ | refine eq_u16 (by omega) ?_) | refine nthK_of (ge0 hi) ?_ | refine nthK_of (ge1 hi) ?_ | refine set1K_of (by rw [cells_len]; omega) sc0 ?_ | refine nthK_of (gc0 hs) ?_ | (with_reducible first | refine eq_rfl ?_ | refine ChkX.mk (by kernel_rfl) ?_ | refine code_q rfl ?_ | refine code_d (by decide +kernel) ?_ | refine end_go rfl ?_) | refine cx_pool ht rfl rfl rfl (by decide) (by first | (simp [plain_int]; done) | fail) plain_none rfl ?_ | refine cx_pool ht rfl rfl rfl (by decide) (by first | (simp [plain_int, plain_bool]; done) | fail) plain_none rfl ?_ | refine cx_pool hh rfl rfl rfl (by decide) (by first | (simp [plain_int]; done) | fail) plain_int rfl ?_ | refine cx_pool hlt rfl rfl rfl (by decide) (by first | (simp [plain_int]; done) | fail) plain_int rfl ?_ | refine cx_pool ha rfl rfl rfl (by decide) (by first | (simp [plain_int]; done) | fail) plain_int rfl ?_ | refine cx_pool hg rfl rfl rfl (by decide) (by first | (simp [plain_int, plain_bool]; done) | fail) plain_none rfl ?_ | refine len_map ?_ | refine len_isl ?_ | refine el_of rfl rfl ?_ | refine del_own ?_ | refine del_own' rfl ?_ | refine as_go rfl ?_ | refine rd_go rfl ?_ | refine rg_end rfl ?_ | refine flat_ownX ?_ | refine EqLX.mk ?_ | ((with_reducible apply br_bq hQz) <;> (try intro hsp hQz)) | exact hQz.out)) <;> (try (conv => whnf))))) : p := h ⟨hq⟩
theorem wx_Ldn {p q : Prop} (hq : q) (h : HidP q → p := by (intro hQz; ((repeat' ((try (conv => whnf)); first | (with_reducible first | refine run_cons ?_ | refine runq_cons ?_ | refine code_seq ?_ | refine code_reg ?_ | refine code_cond ?_ | refine run_nil ?_ | refine runq_nil ?_ | refine rund_op rfl ?_ | refine rund_nil ?_ | refine code_block ?_ | refine code_skip ?_ | refine code_exit ?_ | refine code_ret ?_ | refine code_range ?_ | refine rund_fast (by decide +kernel) ?_ | refine rund_slow (by decide +kernel) ?_ | refine br_tt ?_ | refine br_ff ?_ | refine br_n ?_ | refine br_and ?_ | refine br_or ?_ | refine br_t (by assumption) ?_ | refine br_f (by assumption) ?_ | refine eq_i64 (by omega) ?_ | refine el_tn ?_) | ((with_reducible refine br_dt ?_ ?_); focus omega) | ((with_reducible refine br_df ?_ ?_); focus omega) | ((with_reducible apply br_dq hQz) <;> (try intro hsp hQz)) | ((with_reducible refine ck_x ?_ ?_); focus (first | omega | rfl | assumption | decide | (simp only [List.length_map, List.length_cons, List.length_nil]; omega))) | (with_reducible first | refine eq_tn ?_ | refine eq_tn1 ?_ | refine eq_tn2 ?_ | refine eq_m1 ?_ | refine eq_m2 ?_ | refine eq_zm ?_ | refine eq_z ?_ | refine len_map ?_ | refine len_sl ?_ | refine len_nils ?_ | refine len_own' ?_ | refine len_isl ?_ | refine eq_u8 (by omega) ?_ | refine eq_u16 (by omega) ?_) | refine set1K_of (by rw [cells_len]; omega) sc0 ?_ | refine nthK_of (g1 _ _ _) ?_ | refine nthK_of (g2 _ _ _) ?_ | (with_reducible first | refine eq_rfl ?_ | refine ChkX.mk (by kernel_rfl) ?_ | refine code_d (by decide +kernel) ?_ | refine end_go rfl ?_) | refine cx_pool ht rfl rfl rfl (by decide) (by first | (simp [plain_int, plain_bool]; done) | fail) plain_none rfl ?_ | refine cx_pool hh rfl rfl rfl (by decide) (by first | (simp [plain_int]; done) | fail) plain_int rfl ?_ | refine cx_pool hlt rfl rfl rfl (by decide) (by first | (simp [plain_int]; done) | fail) plain_int rfl ?_ | refine len_map ?_ | refine len_isl ?_ | refine el_of rfl rfl ?_ | refine del_own ?_ | refine del_own' rfl ?_ | refine as_go rfl ?_ | refine rd_go rfl ?_ | refine rg_end rfl ?_ | refine flat_ownX ?_ | refine EqLX.mk ?_ | ((with_reducible apply br_bq hQz) <;> (try intro hsp hQz)) | exact hQz.out)) <;> (try (conv => whnf))))) : p := h ⟨hq⟩
section
variable {n m : Nat} {V L N P A B C : Nat → Int}
theorem l_edge {fr : Int} (x i : Nat) (b : Bool) (p q : Int) (hx : x < n) (hi : i < m) (he : (b = true ∧ p = -1 ∧ q = A i) ∨ (b = false ∧ p = B i ∧ q = -1)) (hp : p = -1 ∨ ∃ a : Nat, a < n ∧ p = (a : Int)) (hq : q = -1 ∨ ∃ a : Nat, a < n ∧ q = (a : Int)) (hC : 0 ≤ C i ∧ C i < 9000) :
    LocP 49 [.int .i64 (x : Nat), .int .i64 (i : Nat), .bool b] n m (poolB n m fr V L N P A B C) (.tup []) (poolB n m fr V (updI L x i) (tieN N x p q) (tieP P x p q) (tieA A i x p) (tieA B i x q) (updI C i (C i + 1))) := by
  have ht := l_tie (n := n) (m := m) (fr := fr) (V := V) (L := L) (N := N) (P := P) (A := A) (B := B) (C := C) x i p q hx hi hp hq hC
  refine LocP.mk (loc_x hmix b49 rfl ?_)
  unfold c49
  rcases he with ⟨rfl, rfl, rfl⟩ | ⟨rfl, rfl, rfl⟩
  · (refine wx_Ld ?_; repeat' (first | with_reducible refine And.intro ?_ ?_ | intro hsp))
    exact end_pool wk_none rfl rfl rfl
  · (refine wx_Ld ?_; repeat' (first | with_reducible refine And.intro ?_ ?_ | intro hsp))
    exact end_pool wk_none rfl rfl rfl
theorem l_push (f s i : Nat) (v : Int) (b : Bool) (p q : Int) (hf : f ≤ s) (hs : s < n) (hn : n ≤ 100000) (hu : ∀ t, f ≤ t → t < s → L t ≠ -1) (hl : L s = -1) (hi : i < m) (he : (b = true ∧ p = -1 ∧ q = A i) ∨ (b = false ∧ p = B i ∧ q = -1)) (hp : p = -1 ∨ ∃ a : Nat, a < n ∧ p = (a : Int)) (hq : q = -1 ∨ ∃ a : Nat, a < n ∧ q = (a : Int)) (hC : 0 ≤ C i ∧ C i < 9000) :
    LocP 24 [.int .i64 (i : Nat), .int .i64 v, .bool b] n m (poolB n m (f : Nat) V L N P A B C) (.tup [.int .i64 (s : Nat), .int .i64 0]) (poolB n m (s : Nat) (updI V s v) (updI L s i) (tieN N s p q) (tieP P s p q) (tieA A i s p) (tieA B i s q) (updI C i (C i + 1))) := by
  have ht := l_edge (n := n) (m := m) (fr := (s : Nat)) (V := updI V s v) (L := L) (N := N) (P := P) (A := A) (B := B) (C := C) s i b p q hs hi he hp hq hC
  have hh := l_has (n := n) (m := m) (fr := (f : Nat)) (V := V) (L := L) (N := N) (P := P) (A := A) (B := B) (C := C) i (by omega) hi
  have hlt := l_least (n := n) (m := m) (V := V) (L := L) (N := N) (P := P) (A := A) (B := B) (C := C) f s hf hs hn hu hl
  refine LocP.mk (loc_x hmix b24 rfl ?_)
  unfold c24
  (refine wx_Ld ?_; repeat' (first | with_reducible refine And.intro ?_ ?_ | intro hsp))
  exact end_pool (wk_ints rfl rfl) rfl rfl rfl
theorem l_push_full (f i : Nat) (v : Int) (b : Bool) (hf : f ≤ n) (hn0 : 0 < n) (hn : n ≤ 100000) (hu : ∀ t, f ≤ t → t < n → L t ≠ -1) (hi : i < m) :
    LocP 24 [.int .i64 (i : Nat), .int .i64 v, .bool b] n m (poolB n m (f : Nat) V L N P A B C) (.tup [.int .i64 0, .int .i64 5]) (poolB n m (n : Nat) V L N P A B C) := by
  have hh := l_has (n := n) (m := m) (fr := (f : Nat)) (V := V) (L := L) (N := N) (P := P) (A := A) (B := B) (C := C) i (by omega) hi
  have hlt := l_least_no (n := n) (m := m) (V := V) (L := L) (N := N) (P := P) (A := A) (B := B) (C := C) f hf hn hu
  refine LocP.mk (loc_x hmix b24 rfl ?_)
  unfold c24
  (refine wx_Ld ?_; repeat' (first | with_reducible refine And.intro ?_ ?_ | intro hsp))
  exact end_pool (wk_ints rfl rfl) rfl rfl rfl
theorem l_push_no {fr : Int} (i : Int) (v : Int) (b : Bool) (hn0 : 0 < n) (hi : i < 0 ∨ (m : Int) ≤ i) :
    LocP 24 [.int .i64 i, .int .i64 v, .bool b] n m (poolB n m fr V L N P A B C) (.tup [.int .i64 0, .int .i64 7]) (poolB n m fr V L N P A B C) := by
  have hh := l_hasnt (n := n) (m := m) (fr := fr) (V := V) (L := L) (N := N) (P := P) (A := A) (B := B) (C := C) i (by omega) hi
  refine LocP.mk (loc_x hmix b24 rfl ?_)
  unfold c24
  (refine wx_Ld ?_; repeat' (first | with_reducible refine And.intro ?_ ?_ | intro hsp))
  all_goals exact end_pool (wk_ints rfl rfl) rfl rfl rfl
theorem l_after (f s x i : Nat) (v : Int) (q : Int) (hf : f ≤ s) (hs : s < n) (hn : n ≤ 100000) (hu : ∀ t, f ≤ t → t < s → L t ≠ -1) (hl : L s = -1) (hx : x < n) (hi : i < m) (hLx : L x = (i : Nat)) (hNx : N x = q) (hq : q = -1 ∨ ∃ a : Nat, a < n ∧ q = (a : Int)) (hC : 0 ≤ C i ∧ C i < 9000) :
    LocP 46 [.int .i64 (x : Nat), .int .i64 v] n m (poolB n m (f : Nat) V L N P A B C) (.tup [.int .i64 (s : Nat), .int .i64 0]) (poolB n m (s : Nat) (updI V s v) (updI L s i) (tieN N s (x : Nat) q) (tieP P s (x : Nat) q) (tieA A i s (x : Nat)) (tieA B i s q) (updI C i (C i + 1))) := by
  have ht := l_tie (n := n) (m := m) (fr := (s : Nat)) (V := updI V s v) (L := L) (N := N) (P := P) (A := A) (B := B) (C := C) s i (x : Nat) q hs hi (.inr ⟨x, hx, rfl⟩) hq hC
  have hh := l_used (n := n) (m := m) (fr := (f : Nat)) (V := V) (L := L) (N := N) (P := P) (A := A) (B := B) (C := C) x hx (by omega)
  have hlt := l_least (n := n) (m := m) (V := V) (L := L) (N := N) (P := P) (A := A) (B := B) (C := C) f s hf hs hn hu hl
  have g1 : ∀ V N P : Nat → Int, (cellsB n V L N P)[x * 4 + 1]? = some (.int .i64 (i : Nat)) := fun V N P => (gc1 hx).trans (by rw [hLx])
  have g2 : ∀ V L P : Nat → Int, (cellsB n V L N P)[x * 4 + 2]? = some (.int .i64 q) := fun V L P => (gc2 hx).trans (by rw [hNx])
  refine LocP.mk (loc_x hmix b46 rfl ?_)
  unfold c46
  (refine wx_Ldn ?_; repeat' (first | with_reducible refine And.intro ?_ ?_ | intro hsp))
  exact end_pool (wk_ints rfl rfl) rfl rfl rfl
theorem l_after_full (f x : Nat) (v : Int) (hf : f ≤ n) (hn : n ≤ 100000) (hu : ∀ t, f ≤ t → t < n → L t ≠ -1) (hx : x < n) (hLx : L x ≠ -1) :
    LocP 46 [.int .i64 (x : Nat), .int .i64 v] n m (poolB n m (f : Nat) V L N P A B C) (.tup [.int .i64 0, .int .i64 5]) (poolB n m (n : Nat) V L N P A B C) := by
  have hh := l_used (n := n) (m := m) (fr := (f : Nat)) (V := V) (L := L) (N := N) (P := P) (A := A) (B := B) (C := C) x hx (by omega)
  have hlt := l_least_no (n := n) (m := m) (V := V) (L := L) (N := N) (P := P) (A := A) (B := B) (C := C) f hf hn hu
  refine LocP.mk (loc_x hmix b46 rfl ?_)
  unfold c46
  (refine wx_Ld ?_; repeat' (first | with_reducible refine And.intro ?_ ?_ | intro hsp))
  exact end_pool (wk_ints rfl rfl) rfl rfl rfl
theorem l_after_no {fr : Int} (s : Int) (v : Int) (hn : 0 < n) (h : ∀ k : Nat, s = (k : Int) → k < n → L k = -1) :
    LocP 46 [.int .i64 s, .int .i64 v] n m (poolB n m fr V L N P A B C) (.tup [.int .i64 0, .int .i64 4]) (poolB n m fr V L N P A B C) := by
  have hh := l_unused (n := n) (m := m) (fr := fr) (V := V) (L := L) (N := N) (P := P) (A := A) (B := B) (C := C) s hn h
  refine LocP.mk (loc_x hmix b46 rfl ?_)
  unfold c46
  (refine wx_Ld ?_; repeat' (first | with_reducible refine And.intro ?_ ?_ | intro hsp))
  all_goals exact end_pool (wk_ints rfl rfl) rfl rfl rfl
theorem l_take (f s i : Nat) (p q : Int) (hs : s < n) (hi : i < m) (hLs : L s = (i : Nat)) (hNs : N s = q) (hPs : P s = p) (hp : p = -1 ∨ ∃ a : Nat, a < n ∧ a ≠ s ∧ p = (a : Int)) (hq : q = -1 ∨ ∃ a : Nat, a < n ∧ q = (a : Int)) (hC : 0 < C i ∧ C i < 9000) :
    LocP 25 [.int .i64 (s : Nat)] n m (poolB n m (f : Nat) V L N P A B C) (.tup [.int .i64 (V s), .int .i64 0]) (poolB n m (min f s : Nat) (updI V s 0) (updI L s (-1)) (unN N s p q) (unP P s p q) (unA A i p q) (unA B i q p) (updI C i (C i - 1))) := by
  have hh := l_used (n := n) (m := m) (fr := (f : Nat)) (V := V) (L := L) (N := N) (P := P) (A := A) (B := B) (C := C) s hs (by omega)
  have ht := l_untie (n := n) (m := m) (fr := (f : Nat)) (V := V) (L := L) (N := N) (P := P) (A := A) (B := B) (C := C) s i p q hs hi hLs hNs hPs hp hq hC
  refine LocP.mk (loc_x hmix b25 rfl ?_)
  unfold c25
  (refine wx_Ld ?_; repeat' (first | with_reducible refine And.intro ?_ ?_ | intro hsp))
  exact end_pool (wk_ints rfl rfl) rfl rfl rfl (by omega)
theorem l_take_no {fr : Int} (s : Int) (hn : 0 < n) (h : ∀ k : Nat, s = (k : Int) → k < n → L k = -1) :
    LocP 25 [.int .i64 s] n m (poolB n m fr V L N P A B C) (.tup [.int .i64 0, .int .i64 4]) (poolB n m fr V L N P A B C) := by
  have hh := l_unused (n := n) (m := m) (fr := fr) (V := V) (L := L) (N := N) (P := P) (A := A) (B := B) (C := C) s hn h
  refine LocP.mk (loc_x hmix b25 rfl ?_)
  unfold c25
  (refine wx_Ld ?_; repeat' (first | with_reducible refine And.intro ?_ ?_ | intro hsp))
  all_goals exact end_pool (wk_ints rfl rfl) rfl rfl rfl
theorem l_move {fr : Int} (s i j : Nat) (b : Bool) (p q p' q' : Int) (hs : s < n) (hi : i < m) (hj : j < m) (hLs : L s = (i : Nat)) (hNs : N s = q) (hPs : P s = p) (hp : p = -1 ∨ ∃ a : Nat, a < n ∧ a ≠ s ∧ p = (a : Int)) (hq : q = -1 ∨ ∃ a : Nat, a < n ∧ q = (a : Int)) (hC : 0 < C i ∧ C i < 9000)
    (he : (b = true ∧ p' = -1 ∧ q' = unA A i p q j) ∨ (b = false ∧ p' = unA B i q p j ∧ q' = -1)) (hp' : p' = -1 ∨ ∃ a : Nat, a < n ∧ p' = (a : Int)) (hq' : q' = -1 ∨ ∃ a : Nat, a < n ∧ q' = (a : Int)) (hC' : 0 ≤ updI C i (C i - 1) j ∧ updI C i (C i - 1) j < 9000) :
    LocP 55 [.int .i64 (s : Nat), .int .i64 (j : Nat), .bool b] n m (poolB n m fr V L N P A B C) (.int .i64 0) (poolB n m fr V (updI (updI L s (-1)) s j) (tieN (unN N s p q) s p' q') (tieP (unP P s p q) s p' q') (tieA (unA A i p q) j s p') (tieA (unA B i q p) j s q') (updI (updI C i (C i - 1)) j (updI C i (C i - 1) j + 1))) := by
  have hh := l_used (n := n) (m := m) (fr := fr) (V := V) (L := L) (N := N) (P := P) (A := A) (B := B) (C := C) s hs (by omega)
  have ha := l_has (n := n) (m := m) (fr := fr) (V := V) (L := L) (N := N) (P := P) (A := A) (B := B) (C := C) j (by omega) hj
  have ht := l_untie (n := n) (m := m) (fr := fr) (V := V) (L := L) (N := N) (P := P) (A := A) (B := B) (C := C) s i p q hs hi hLs hNs hPs hp hq hC
  have hg := l_edge (n := n) (m := m) (fr := fr) (V := V) (L := updI L s (-1)) (N := unN N s p q) (P := unP P s p q) (A := unA A i p q) (B := unA B i q p) (C := updI C i (C i - 1)) s j b p' q' hs hj he hp' hq' hC'
  refine LocP.mk (loc_x hmix b55 rfl ?_)
  unfold c55
  (refine wx_Ld ?_; repeat' (first | with_reducible refine And.intro ?_ ?_ | intro hsp))
  exact end_pool (wk_int rfl) rfl rfl rfl
theorem l_move_no {fr : Int} (s : Int) (j : Int) (b : Bool) (hn : 0 < n) (h : ∀ k : Nat, s = (k : Int) → k < n → L k = -1) :
    LocP 55 [.int .i64 s, .int .i64 j, .bool b] n m (poolB n m fr V L N P A B C) (.int .i64 4) (poolB n m fr V L N P A B C) := by
  have hh := l_unused (n := n) (m := m) (fr := fr) (V := V) (L := L) (N := N) (P := P) (A := A) (B := B) (C := C) s hn h
  refine LocP.mk (loc_x hmix b55 rfl ?_)
  unfold c55
  (refine wx_Ld ?_; repeat' (first | with_reducible refine And.intro ?_ ?_ | intro hsp))
  all_goals exact end_pool (wk_int rfl) rfl rfl rfl
theorem l_move_bad {fr : Int} (s : Nat) (j : Int) (b : Bool) (hs : s < n) (hl : L s ≠ -1) (hj : j < 0 ∨ (m : Int) ≤ j) :
    LocP 55 [.int .i64 (s : Nat), .int .i64 j, .bool b] n m (poolB n m fr V L N P A B C) (.int .i64 7) (poolB n m fr V L N P A B C) := by
  have hh := l_used (n := n) (m := m) (fr := fr) (V := V) (L := L) (N := N) (P := P) (A := A) (B := B) (C := C) s hs hl
  have ha := l_hasnt (n := n) (m := m) (fr := fr) (V := V) (L := L) (N := N) (P := P) (A := A) (B := B) (C := C) j (by omega) hj
  refine LocP.mk (loc_x hmix b55 rfl ?_)
  unfold c55
  (refine wx_Ld ?_; repeat' (first | with_reducible refine And.intro ?_ ?_ | intro hsp))
  all_goals exact end_pool (wk_int rfl) rfl rfl rfl
end
end Go.Proofs.Ytkjimnhmiojcdaa
namespace Go.Pol
def hd : List Nat → Int
  | [] => -1
  | x :: _ => x
def lst (l : List Nat) : Int := match l.getLast? with
  | none => -1
  | some x => x
def updQ (Q : Nat → List Nat) (i : Nat) (l : List Nat) : Nat → List Nat := fun j => if j = i then l else Q j
section
variable {X Y Z : List Nat} {x s : Nat}
theorem lst_snoc : lst (X ++ [x]) = x := by simp [lst]
theorem lst_app : lst (X ++ Y) = if Y = [] then lst X else lst Y := by
  by_cases h : Y = []
  · subst h; simp
  · rw [if_neg h]; unfold lst; rw [List.getLast?_append]; cases hl : Y.getLast? with
    | none => simp at hl; exact absurd hl h
    | some y => rfl
theorem lst_appc : lst (X ++ x :: Y) = if Y = [] then (x : Int) else lst Y := by
  rw [show X ++ x :: Y = (X ++ [x]) ++ Y by simp, lst_app, lst_snoc]
theorem hd_app : hd (X ++ Y) = if X = [] then hd Y else hd X := by cases X <;> simp [hd]
theorem lst_mem (h : lst X = (s : Int)) : s ∈ X := by
  unfold lst at h
  cases hl : X.getLast? with
  | none => rw [hl] at h; dsimp only at h; omega
  | some y =>
    rw [hl] at h; dsimp only at h
    have e : y = s := by omega
    subst e; exact List.mem_of_getLast? hl
theorem hd_mem (h : hd X = (s : Int)) : s ∈ X := by
  cases X with
  | nil => simp only [hd] at h; omega
  | cons y Y =>
    simp only [hd] at h
    have e : y = s := by omega
    subst e; exact List.mem_cons_self ..
theorem lst_neg : lst X = -1 ↔ X = [] := by
  unfold lst
  cases hl : X.getLast? with
  | none => simp at hl; simp [hl]
  | some y =>
    dsimp only
    constructor
    · intro h; omega
    · intro h; subst h; simp at hl
theorem hd_neg : hd X = -1 ↔ X = [] := by
  cases X with
  | nil => simp [hd]
  | cons y Y =>
    simp only [hd]
    constructor
    · intro h; omega
    · intro h; cases h
theorem lst_ge : lst X = -1 ∨ ∃ a : Nat, a ∈ X ∧ lst X = (a : Int) := by
  cases hl : X.getLast? with
  | none => left; unfold lst; rw [hl]
  | some y => right; exact ⟨y, List.mem_of_getLast? hl, by unfold lst; rw [hl]⟩
theorem hd_ge : hd X = -1 ∨ ∃ a : Nat, a ∈ X ∧ hd X = (a : Int) := by
  cases X with
  | nil => exact .inl rfl
  | cons y Y => exact .inr ⟨y, List.mem_cons_self .., rfl⟩
end
theorem split2 {X Y X' Y' : List Nat} {s : Nat} (h : X ++ Y = X' ++ s :: Y') : (∃ Z, X = X' ++ s :: Z ∧ Y' = Z ++ Y) ∨ ∃ Z, Y = Z ++ s :: Y' ∧ X' = X ++ Z := by
  rcases List.append_eq_append_iff.1 h with ⟨Z, h1, h2⟩ | ⟨Z, h1, h2⟩
  · exact .inr ⟨Z, h2, h1⟩
  · cases Z with
    | nil => exact .inr ⟨[], by simpa using h2.symm, by simpa using h1.symm⟩
    | cons z Z => rw [List.cons_append] at h2; injection h2 with h3 h4; subst h3; exact .inl ⟨Z, h1, h4⟩
theorem split3 {X Y X' Y' : List Nat} {x s : Nat} (h : X ++ x :: Y = X' ++ s :: Y') : (X = X' ∧ x = s ∧ Y = Y') ∨ (∃ Z, X = X' ++ s :: Z ∧ Y' = Z ++ x :: Y) ∨ ∃ Z, Y = Z ++ s :: Y' ∧ X' = X ++ x :: Z := by
  rcases split2 h with ⟨Z, h1, h2⟩ | ⟨Z, h1, h2⟩
  · exact .inr (.inl ⟨Z, h1, h2⟩)
  · cases Z with
    | nil => rw [List.nil_append] at h1; injection h1 with h3 h4; exact .inl ⟨by simpa using h2.symm, h3, h4⟩
    | cons z Z => rw [List.cons_append] at h1; injection h1 with h3 h4; subst h3; exact .inr (.inr ⟨Z, h4, h2⟩)
theorem len_le : ∀ (n : Nat) (l : List Nat), l.Nodup → (∀ x ∈ l, x < n) → l.length ≤ n
  | 0, l, _, h => by cases l with
    | nil => exact Nat.le_refl _
    | cons x l => exact absurd (h x (List.mem_cons_self ..)) (by omega)
  | n + 1, l, hd, h => by
    by_cases hm : n ∈ l
    · have := len_le n (l.erase n) (hd.erase n) fun x hx => by
        have h1 := (hd.mem_erase_iff).1 hx
        have := h x h1.2; have := h1.1; omega
      rw [List.length_erase_of_mem hm] at this; omega
    · have := len_le n l hd fun x hx => by
        have h1 := h x hx
        have : x ≠ n := fun e => hm (e ▸ hx)
        omega
      omega
/-- The numbers of slots and lists are those of lists of slots. -/
structure St (n m : Nat) (L N P A B C : Nat → Int) (Q : Nat → List Nat) : Prop where
  out : ∀ i, m ≤ i → Q i = []
  us : ∀ i s, s ∈ Q i → s < n ∧ L s = (i : Nat)
  fre : ∀ s, s < n → (L s = -1 ∧ N s = -1 ∧ P s = -1) ∨ ∃ i, i < m ∧ L s = (i : Nat) ∧ s ∈ Q i
  nd : ∀ i, (Q i).Nodup
  ch : ∀ i X s Y, Q i = X ++ s :: Y → N s = hd Y ∧ P s = lst X
  en : ∀ i, i < m → A i = hd (Q i) ∧ B i = lst (Q i) ∧ C i = ((Q i).length : Nat)
theorem tieN_at {N : Nat → Int} {x s : Nat} {p q : Int} (hp : p = -1 ∨ ∃ a : Nat, a ≠ x ∧ p = (a : Int)) : tieN N x p q s = if s = x then q else if p = (s : Int) then (x : Int) else N s := by
  unfold tieN updI
  rcases hp with rfl | ⟨a, ha, rfl⟩
  · rw [if_pos rfl, if_neg (show ¬ (-1 : Int) = (s : Int) by omega)]
  · rw [if_neg (by omega)]
    simp only [Int.toNat_natCast]
    by_cases h1 : s = a
    · subst h1; rw [if_pos rfl, if_neg ha, if_pos rfl]
    · rw [if_neg h1, if_neg (show ¬ (a : Int) = (s : Int) by omega)]
theorem tieP_at {P : Nat → Int} {x s : Nat} {p q : Int} (hq : q = -1 ∨ ∃ a : Nat, a ≠ x ∧ q = (a : Int)) : tieP P x p q s = if s = x then p else if q = (s : Int) then (x : Int) else P s := tieN_at (N := P) (x := x) (s := s) (p := q) (q := p) hq
theorem unN_at {N : Nat → Int} {s t : Nat} {p q : Int} (hp : p = -1 ∨ ∃ a : Nat, a ≠ s ∧ p = (a : Int)) : unN N s p q t = if t = s then -1 else if p = (t : Int) then q else N t := by
  unfold unN updI
  by_cases h1 : t = s
  · rw [if_pos h1, if_pos h1]
  · rw [if_neg h1, if_neg h1]
    rcases hp with rfl | ⟨a, ha, rfl⟩
    · rw [if_pos rfl, if_neg (by omega)]
    · rw [if_neg (by omega)]
      simp only [Int.toNat_natCast]
      by_cases h2 : t = a
      · subst h2; rw [if_pos rfl, if_pos rfl]
      · rw [if_neg h2, if_neg (by omega)]
theorem unP_at {P : Nat → Int} {s t : Nat} {p q : Int} (hq : q = -1 ∨ ∃ a : Nat, a ≠ s ∧ q = (a : Int)) : unP P s p q t = if t = s then -1 else if q = (t : Int) then p else P t := unN_at (N := P) (p := q) (q := p) hq
section
variable {n m : Nat} {L N P A B C : Nat → Int} {Q : Nat → List Nat}
theorem St.free (h : St n m L N P A B C Q) {x : Nat} (hL : L x = -1) (j : Nat) : x ∉ Q j := fun hx => by have := (h.us j x hx).2; omega
theorem St.one (h : St n m L N P A B C Q) {x i j : Nat} (hi : x ∈ Q i) (hj : x ∈ Q j) : i = j := by have := (h.us i x hi).2; have := (h.us j x hj).2; omega
theorem St.unused (h : St n m L N P A B C Q) {x : Nat} (hx : x < n) (hn : ∀ j, x ∉ Q j) : L x = -1 := by
  rcases h.fre x hx with h1 | ⟨i, _, _, h3⟩
  · exact h1.1
  · exact absurd h3 (hn i)
theorem St.tie (h : St n m L N P A B C Q) {x i : Nat} {X Y : List Nat} (hx : x < n) (hL : L x = -1) (hi : i < m) (hQ : Q i = X ++ Y) :
    St n m (updI L x i) (tieN N x (lst X) (hd Y)) (tieP P x (lst X) (hd Y)) (tieA A i x (lst X)) (tieA B i x (hd Y)) (updI C i (C i + 1)) (updQ Q i (X ++ x :: Y)) := by
  have hf := h.free hL
  have hXm : ∀ a, a ∈ X → a ∈ Q i := fun a ha => by rw [hQ]; exact List.mem_append_left _ ha
  have hYm : ∀ a, a ∈ Y → a ∈ Q i := fun a ha => by rw [hQ]; exact List.mem_append_right _ ha
  have hp : lst X = -1 ∨ ∃ a : Nat, a ≠ x ∧ lst X = (a : Int) := by
    rcases lst_ge (X := X) with h1 | ⟨a, h1, h2⟩
    · exact .inl h1
    · exact .inr ⟨a, fun e => hf i (e ▸ hXm a h1), h2⟩
  have hq : hd Y = -1 ∨ ∃ a : Nat, a ≠ x ∧ hd Y = (a : Int) := by
    rcases hd_ge (X := Y) with h1 | ⟨a, h1, h2⟩
    · exact .inl h1
    · exact .inr ⟨a, fun e => hf i (e ▸ hYm a h1), h2⟩
  have hnd := h.nd i
  rw [hQ] at hnd
  obtain ⟨nd1, nd2, nd3⟩ := List.nodup_append.1 hnd
  refine ⟨fun j hj => ?_, fun j s hs => ?_, fun s hs => ?_, fun j => ?_, fun j X' s Y' hj => ?_, fun j hj => ?_⟩
  · unfold updQ; rw [if_neg (by omega)]; exact h.out j hj
  · unfold updQ at hs; unfold updI
    split at hs
    · rename_i e; subst e
      rcases List.mem_append.1 hs with h1 | h1
      · have h2 := h.us _ s (hXm s h1)
        exact ⟨h2.1, by split; rfl; exact h2.2⟩
      · rcases List.mem_cons.1 h1 with rfl | h1
        · exact ⟨hx, if_pos rfl⟩
        · have h2 := h.us _ s (hYm s h1)
          exact ⟨h2.1, by split; rfl; exact h2.2⟩
    · have h2 := h.us _ s hs
      exact ⟨h2.1, by rw [if_neg (show ¬ s = x from fun e => hf j (e ▸ hs))]; exact h2.2⟩
  · by_cases e : s = x
    · right; subst e
      exact ⟨i, hi, by simp [updI], by simp [updQ]⟩
    · rcases h.fre s hs with ⟨h1, h2, h3⟩ | ⟨j, h1, h2, h3⟩
      · left
        have hX : ¬ lst X = (s : Int) := fun e2 => h.free h1 i (hXm s (lst_mem e2))
        have hY : ¬ hd Y = (s : Int) := fun e2 => h.free h1 i (hYm s (hd_mem e2))
        rw [tieN_at hp, tieP_at hq, if_neg e, if_neg hX, if_neg e, if_neg hY]
        exact ⟨by unfold updI; rw [if_neg e]; exact h1, h2, h3⟩
      · right
        refine ⟨j, h1, by unfold updI; rw [if_neg e]; exact h2, ?_⟩
        unfold updQ
        split
        · rename_i e2; subst e2; rw [hQ] at h3
          rcases List.mem_append.1 h3 with h4 | h4
          · exact List.mem_append_left _ h4
          · exact List.mem_append_right _ (List.mem_cons_of_mem _ h4)
        · exact h3
  · unfold updQ; split
    · refine List.nodup_append.2 ⟨nd1, List.nodup_cons.2 ⟨fun hm => hf i (hYm x hm), nd2⟩, fun a ha b hb => ?_⟩
      rcases List.mem_cons.1 hb with rfl | hb
      · exact fun e => hf i (e ▸ hXm a ha)
      · exact nd3 a ha b hb
    · exact h.nd j
  · rw [tieN_at hp, tieP_at hq]
    by_cases e : j = i
    · subst e
      rw [updQ, if_pos rfl] at hj
      rcases split3 hj with ⟨rfl, rfl, rfl⟩ | ⟨Z, rfl, rfl⟩ | ⟨Z, rfl, rfl⟩
      · rw [if_pos rfl, if_pos rfl]; exact ⟨rfl, rfl⟩
      · have hsX : s ∈ X' ++ s :: Z := by simp
        have hne : ¬ s = x := fun e => hf j (e ▸ hXm s hsX)
        have hc := h.ch j X' s (Z ++ Y) (by rw [hQ]; simp)
        have hY : ¬ hd Y = (s : Int) := fun e2 => nd3 s hsX s (hd_mem e2) rfl
        rw [if_neg hne, if_neg hne, if_neg hY]
        refine ⟨?_, hc.2⟩
        cases Z with
        | nil => rw [if_pos (by rw [lst_snoc])]; rfl
        | cons z Z =>
          have h1 : ¬ lst (X' ++ s :: z :: Z) = (s : Int) := fun e2 => by
            rw [lst_appc, if_neg (by simp)] at e2
            have := lst_mem e2
            have h2 := (List.nodup_append.1 nd1).2.1
            exact (List.nodup_cons.1 h2).1 this
          rw [if_neg h1, hc.1]; rfl
      · have hsY : s ∈ Z ++ s :: Y' := by simp
        have hne : ¬ s = x := fun e => hf j (e ▸ hYm s hsY)
        have hc := h.ch j (X ++ Z) s Y' (by rw [hQ]; simp)
        have hX : ¬ lst X = (s : Int) := fun e2 => nd3 s (lst_mem e2) s hsY rfl
        rw [if_neg hne, if_neg hne, if_neg hX]
        refine ⟨hc.1, ?_⟩
        cases Z with
        | nil => rw [if_pos (show hd ([] ++ s :: Y') = (s : Int) from rfl), lst_snoc]
        | cons z Z =>
          have h1 : ¬ hd (z :: Z ++ s :: Y') = (s : Int) := fun e2 => by
            simp only [List.cons_append, hd] at e2
            have h2 : z = s := by omega
            subst h2
            exact (List.nodup_cons.1 nd2).1 (by simp)
          rw [if_neg h1, hc.2, lst_app, lst_appc, if_neg (by simp), if_neg (by simp)]
    · rw [updQ, if_neg e] at hj
      have hs : s ∈ Q j := by rw [hj]; simp
      have hne : ¬ s = x := fun e => hf j (e ▸ hs)
      have hX : ¬ lst X = (s : Int) := fun e2 => e (h.one hs (hXm s (lst_mem e2)))
      have hY : ¬ hd Y = (s : Int) := fun e2 => e (h.one hs (hYm s (hd_mem e2)))
      rw [if_neg hne, if_neg hne, if_neg hX, if_neg hY]
      exact h.ch j X' s Y' hj
  · have h1 := h.en j hj
    unfold tieA updI updQ
    by_cases e : j = i
    · subst e
      rw [hQ] at h1
      obtain ⟨h2, h3, h4⟩ := h1
      simp only [if_true]
      refine ⟨?_, ?_, by rw [h4]; simp [List.length_append]; omega⟩
      · by_cases hX : X = []
        · subst hX; simp [lst_neg.2 rfl]; rfl
        · rw [if_neg (fun e => hX (lst_neg.1 e)), h2, hd_app, hd_app, if_neg hX, if_neg hX]
      · by_cases hY : Y = []
        · subst hY; simp [hd_neg.2 rfl, lst_snoc]
        · rw [if_neg (fun e => hY (hd_neg.1 e)), h3, lst_app, lst_appc, if_neg hY, if_neg hY]
    · have e1 : ∀ (q : Int) (f : Nat → Int), (if q = -1 then fun k => if k = i then (x : Int) else f k else f) j = f j := fun q f => by split; exact if_neg e; rfl
      rw [if_neg e, if_neg e]
      exact ⟨by rw [e1]; exact h1.1, by rw [e1]; exact h1.2.1, h1.2.2⟩
theorem St.untie (h : St n m L N P A B C Q) {s i : Nat} {X Y : List Nat} (hi : i < m) (hQ : Q i = X ++ s :: Y) :
    St n m (updI L s (-1)) (unN N s (lst X) (hd Y)) (unP P s (lst X) (hd Y)) (unA A i (lst X) (hd Y)) (unA B i (hd Y) (lst X)) (updI C i (C i - 1)) (updQ Q i (X ++ Y)) := by
  have hXm : ∀ a, a ∈ X → a ∈ Q i := fun a ha => by rw [hQ]; exact List.mem_append_left _ ha
  have hYm : ∀ a, a ∈ Y → a ∈ Q i := fun a ha => by rw [hQ]; exact List.mem_append_right _ (List.mem_cons_of_mem _ ha)
  have hsm : s ∈ Q i := by rw [hQ]; simp
  have hnd := h.nd i
  rw [hQ] at hnd
  obtain ⟨nd1, nd2, nd3⟩ := List.nodup_append.1 hnd
  obtain ⟨nd4, nd5⟩ := List.nodup_cons.1 nd2
  have hsX : s ∉ X := fun hm => nd3 s hm s (List.mem_cons_self ..) rfl
  have hp : lst X = -1 ∨ ∃ a : Nat, a ≠ s ∧ lst X = (a : Int) := by
    rcases lst_ge (X := X) with h1 | ⟨a, h1, h2⟩
    · exact .inl h1
    · exact .inr ⟨a, fun e => hsX (e ▸ h1), h2⟩
  have hq : hd Y = -1 ∨ ∃ a : Nat, a ≠ s ∧ hd Y = (a : Int) := by
    rcases hd_ge (X := Y) with h1 | ⟨a, h1, h2⟩
    · exact .inl h1
    · exact .inr ⟨a, fun e => nd4 (e ▸ h1), h2⟩
  have hmem : ∀ t, t ∈ X ++ Y → t ∈ Q i ∧ t ≠ s := fun t ht => by
    rcases List.mem_append.1 ht with h1 | h1
    · exact ⟨hXm t h1, fun e => hsX (e ▸ h1)⟩
    · exact ⟨hYm t h1, fun e => nd4 (e ▸ h1)⟩
  refine ⟨fun j hj => ?_, fun j t ht => ?_, fun t ht => ?_, fun j => ?_, fun j X' t Y' hj => ?_, fun j hj => ?_⟩
  · unfold updQ; rw [if_neg (by omega)]; exact h.out j hj
  · unfold updQ at ht; unfold updI
    split at ht
    · rename_i e; subst e
      obtain ⟨h1, h2⟩ := hmem t ht
      rw [if_neg h2]; exact h.us _ t h1
    · rename_i e
      rw [if_neg (show ¬ t = s from fun e2 => e (h.one ht (e2 ▸ hsm)))]; exact h.us _ t ht
  · rw [unN_at hp, unP_at hq]
    by_cases e : t = s
    · left; subst e; rw [if_pos rfl, if_pos rfl]; exact ⟨by simp [updI], rfl, rfl⟩
    · rw [if_neg e, if_neg e]
      rcases h.fre t ht with ⟨h1, h2, h3⟩ | ⟨j, h1, h2, h3⟩
      · left
        have hX : ¬ lst X = (t : Int) := fun e2 => h.free h1 i (hXm t (lst_mem e2))
        have hY : ¬ hd Y = (t : Int) := fun e2 => h.free h1 i (hYm t (hd_mem e2))
        rw [if_neg hX, if_neg hY]
        exact ⟨by unfold updI; rw [if_neg e]; exact h1, h2, h3⟩
      · right
        refine ⟨j, h1, by unfold updI; rw [if_neg e]; exact h2, ?_⟩
        unfold updQ
        split
        · rename_i e2; subst e2; rw [hQ] at h3
          rcases List.mem_append.1 h3 with h4 | h4
          · exact List.mem_append_left _ h4
          · rcases List.mem_cons.1 h4 with h4 | h4
            · exact absurd h4 e
            · exact List.mem_append_right _ h4
        · exact h3
  · unfold updQ; split
    · exact List.nodup_append.2 ⟨nd1, nd5, fun a ha b hb => nd3 a ha b (List.mem_cons_of_mem _ hb)⟩
    · exact h.nd j
  · rw [unN_at hp, unP_at hq]
    by_cases e : j = i
    · subst e
      rw [updQ, if_pos rfl] at hj
      have hts := (hmem t (by rw [hj]; simp)).2
      rw [if_neg hts, if_neg hts]
      rcases split2 hj with ⟨Z, rfl, rfl⟩ | ⟨Z, rfl, rfl⟩
      · have hc := h.ch j X' t (Z ++ s :: Y) (by rw [hQ]; simp)
        have hY : ¬ hd Y = (t : Int) := fun e2 => nd3 t (by simp) t (List.mem_cons_of_mem _ (hd_mem e2)) rfl
        rw [if_neg hY]
        refine ⟨?_, hc.2⟩
        cases Z with
        | nil => rw [if_pos (by rw [lst_snoc])]; rfl
        | cons z Z =>
          have h1 : ¬ lst (X' ++ t :: z :: Z) = (t : Int) := fun e2 => by
            rw [lst_appc, if_neg (by simp)] at e2
            have := lst_mem e2
            have h2 := (List.nodup_append.1 nd1).2.1
            exact (List.nodup_cons.1 h2).1 this
          rw [if_neg h1, hc.1]; rfl
      · have hc := h.ch j (X ++ s :: Z) t Y' (by rw [hQ]; simp)
        have hX : ¬ lst X = (t : Int) := fun e2 => nd3 t (lst_mem e2) t (by simp) rfl
        rw [if_neg hX]
        refine ⟨hc.1, ?_⟩
        cases Z with
        | nil => rw [if_pos (show hd ([] ++ t :: Y') = (t : Int) from rfl), List.append_nil]
        | cons z Z =>
          have h1 : ¬ hd (z :: Z ++ t :: Y') = (t : Int) := fun e2 => by
            simp only [List.cons_append, hd] at e2
            have h2 : z = t := by omega
            subst h2
            exact (List.nodup_cons.1 nd5).1 (by simp)
          rw [if_neg h1, hc.2, lst_appc, if_neg (by simp), lst_app, if_neg (by simp)]
    · rw [updQ, if_neg e] at hj
      have ht : t ∈ Q j := by rw [hj]; simp
      have hne : ¬ t = s := fun e2 => e (h.one ht (e2 ▸ hsm))
      have hX : ¬ lst X = (t : Int) := fun e2 => e (h.one ht (hXm t (lst_mem e2)))
      have hY : ¬ hd Y = (t : Int) := fun e2 => e (h.one ht (hYm t (hd_mem e2)))
      rw [if_neg hne, if_neg hne, if_neg hX, if_neg hY]
      exact h.ch j X' t Y' hj
  · have h1 := h.en j hj
    unfold unA updI updQ
    by_cases e : j = i
    · subst e
      rw [hQ] at h1
      obtain ⟨h2, h3, h4⟩ := h1
      simp only [if_true]
      refine ⟨?_, ?_, by rw [h4]; simp [List.length_append]; omega⟩
      · by_cases hX : X = []
        · subst hX; simp [lst_neg.2 rfl]
        · rw [if_neg (fun e => hX (lst_neg.1 e)), h2, hd_app, hd_app, if_neg hX, if_neg hX]
      · by_cases hY : Y = []
        · subst hY; simp [hd_neg.2 rfl]
        · rw [if_neg (fun e => hY (hd_neg.1 e)), h3, lst_appc, if_neg hY, lst_app, if_neg hY]
    · have e1 : ∀ (q r : Int) (f : Nat → Int), (if q = -1 then fun k => if k = i then r else f k else f) j = f j := fun q r f => by split; exact if_neg e; rfl
      rw [if_neg e, if_neg e]
      exact ⟨by rw [e1]; exact h1.1, by rw [e1]; exact h1.2.1, h1.2.2⟩
end
end Go.Pol
namespace Go.Pol
structure PS where
  fr : Nat
  L : Nat → Int
  N : Nat → Int
  P : Nat → Int
  A : Nat → Int
  B : Nat → Int
  C : Nat → Int
def poolS (n m : Nat) (V : Nat → Int) (S : PS) : List (Nat × Go.Am.AObj) := poolB n m (S.fr : Nat) V S.L S.N S.P S.A S.B S.C
structure Inv (n m : Nat) (V : Nat → Int) (Q : Nat → List Nat) (S : PS) : Prop where
  st : St n m S.L S.N S.P S.A S.B S.C Q
  val : ∀ s, s < n → S.L s = -1 → V s = 0
  frn : S.fr ≤ n
  fru : ∀ t, t < S.fr → S.L t ≠ -1
def freeAt (n : Nat) (Q : Nat → List Nat) (s : Nat) : Prop := s < n ∧ (∀ i, s ∉ Q i) ∧ ∀ t, t < s → ∃ i, t ∈ Q i
def fullAt (n : Nat) (Q : Nat → List Nat) : Prop := ∀ t, t < n → ∃ i, t ∈ Q i
def noSlot (n : Nat) (Q : Nat → List Nat) (s : Int) : Prop := ∀ k : Nat, s = (k : Int) → k < n → ∀ i, k ∉ Q i
/-- A slot of a list, with what stands before and behind it. -/
structure AtQ (m : Nat) (Q : Nat → List Nat) (s i : Nat) (X Y : List Nat) : Prop where
  i_lt : i < m
  eq : Q i = X ++ s :: Y
theorem updQ_at (Q : Nat → List Nat) (i : Nat) (l : List Nat) : updQ Q i l i = l := by simp [updQ]
section
variable {n m : Nat} {V : Nat → Int} {Q : Nat → List Nat} {S : PS}
theorem St.usedI {n m : Nat} {L N P A B C : Nat → Int} {Q : Nat → List Nat} (h : St n m L N P A B C Q) {t : Nat} (ht : ∃ i, t ∈ Q i) : L t ≠ -1 := fun e => by
  obtain ⟨i, hi⟩ := ht
  exact h.free e i hi
theorem Inv.len (h : Inv n m V Q S) (i : Nat) : (Q i).length ≤ n := len_le n _ (h.st.nd i) fun x hx => (h.st.us i x hx).1
theorem lst_lt (h : Inv n m V Q S) {i : Nat} {X Y : List Nat} (hQ : Q i = X ++ Y) : lst X = -1 ∨ ∃ a : Nat, a < n ∧ lst X = (a : Int) := by
  rcases lst_ge (X := X) with h1 | ⟨a, h1, h2⟩
  · exact .inl h1
  · exact .inr ⟨a, (h.st.us i a (by rw [hQ]; exact List.mem_append_left _ h1)).1, h2⟩
theorem hd_lt (h : Inv n m V Q S) {i : Nat} {X Y : List Nat} (hQ : Q i = X ++ Y) : hd Y = -1 ∨ ∃ a : Nat, a < n ∧ hd Y = (a : Int) := by
  rcases hd_ge (X := Y) with h1 | ⟨a, h1, h2⟩
  · exact .inl h1
  · exact .inr ⟨a, (h.st.us i a (by rw [hQ]; exact List.mem_append_right _ h1)).1, h2⟩
theorem Inv.tied (h : Inv n m V Q S) {x i : Nat} {X Y : List Nat} (v : Int) (hx : freeAt n Q x) (hi : i < m) (hQ : Q i = X ++ Y) :
    Inv n m (updI V x v) (updQ Q i (X ++ x :: Y)) ⟨x, updI S.L x i, tieN S.N x (lst X) (hd Y), tieP S.P x (lst X) (hd Y), tieA S.A i x (lst X), tieA S.B i x (hd Y), updI S.C i (S.C i + 1)⟩ := by
  have hL := h.st.unused hx.1 hx.2.1
  refine ⟨h.st.tie hx.1 hL hi hQ, fun s hs hl => ?_, Nat.le_of_lt hx.1, fun t ht => ?_⟩
  · dsimp only at hl
    by_cases e : s = x
    · subst e; rw [updI_at] at hl; omega
    · rw [updI_ne e] at hl ⊢; exact h.val s hs hl
  · dsimp only at ht ⊢
    rw [updI_ne (by omega)]
    exact h.st.usedI (hx.2.2 t ht)
theorem noSlot_L (h : Inv n m V Q S) {s : Int} (hs : noSlot n Q s) : ∀ k : Nat, s = (k : Int) → k < n → S.L k = -1 := fun k e hk => h.st.unused hk (hs k e hk)
end
end Go.Pol
namespace Go.Proofs.Ytkjimnhmiojcdaa
open Go Go.Am Go.Pol
section
variable {n m : Nat} {V : Nat → Int} {Q : Nat → List Nat} {S : PS}
theorem p_push (h : Inv n m V Q S) (hn : n ≤ 8000) {s i : Nat} (hs : freeAt n Q s) (hi : i < m) (v : Int) (b : Bool) :
    ∃ S', Inv n m (updI V s v) (updQ Q i (if b = true then s :: Q i else Q i ++ [s])) S' ∧ LocP 24 [.int .i64 (i : Nat), .int .i64 v, .bool b] n m (poolS n m V S) (.tup [.int .i64 (s : Nat), .int .i64 0]) (poolS n m (updI V s v) S') := by
  have hlen := h.len i
  have hen := h.st.en i hi
  have hL := h.st.unused hs.1 hs.2.1
  have hf : S.fr ≤ s := Nat.le_of_not_lt fun hlt => h.fru s hlt hL
  have hu : ∀ t, S.fr ≤ t → t < s → S.L t ≠ -1 := fun t _ ht => h.st.usedI (hs.2.2 t ht)
  cases b
  · have hQ : Q i = Q i ++ [] := by simp
    have h1 := h.tied v hs hi hQ
    exact ⟨_, h1, l_push S.fr s i v false (lst (Q i)) (hd []) hf hs.1 (by omega) hu hL hi (.inr ⟨rfl, hen.2.1.symm, rfl⟩) (lst_lt h hQ) (.inl rfl) (by rw [hen.2.2]; omega)⟩
  · have hQ : Q i = [] ++ Q i := by simp
    have h1 := h.tied v hs hi hQ
    exact ⟨_, h1, l_push S.fr s i v true (lst []) (hd (Q i)) hf hs.1 (by omega) hu hL hi (.inl ⟨rfl, rfl, hen.1.symm⟩) (.inl rfl) (hd_lt h hQ) (by rw [hen.2.2]; omega)⟩
theorem p_full (h : Inv n m V Q S) (hs : fullAt n Q) : Inv n m V Q ⟨n, S.L, S.N, S.P, S.A, S.B, S.C⟩ := ⟨h.st, h.val, Nat.le_refl _, fun t ht => h.st.usedI (hs t ht)⟩
theorem p_push_full (h : Inv n m V Q S) (hn0 : 0 < n) (hn : n ≤ 8000) {i : Nat} (hs : fullAt n Q) (hi : i < m) (v : Int) (b : Bool) :
    ∃ S', Inv n m V Q S' ∧ LocP 24 [.int .i64 (i : Nat), .int .i64 v, .bool b] n m (poolS n m V S) (.tup [.int .i64 0, .int .i64 5]) (poolS n m V S') :=
  ⟨_, p_full h hs, l_push_full S.fr i v b h.frn hn0 (by omega) (fun t _ ht => h.st.usedI (hs t ht)) hi⟩
theorem p_push_no (hn0 : 0 < n) (i : Int) (hi : i < 0 ∨ (m : Int) ≤ i) (v : Int) (b : Bool) :
    LocP 24 [.int .i64 i, .int .i64 v, .bool b] n m (poolS n m V S) (.tup [.int .i64 0, .int .i64 7]) (poolS n m V S) := l_push_no i v b hn0 hi
theorem p_after (h : Inv n m V Q S) (hn : n ≤ 8000) {s x i : Nat} {X Y : List Nat} (hs : freeAt n Q s) (hx : AtQ m Q x i X Y) (v : Int) :
    ∃ S', Inv n m (updI V s v) (updQ Q i (X ++ x :: s :: Y)) S' ∧ LocP 46 [.int .i64 (x : Nat), .int .i64 v] n m (poolS n m V S) (.tup [.int .i64 (s : Nat), .int .i64 0]) (poolS n m (updI V s v) S') := by
  have hlen := h.len i
  have hen := h.st.en i hx.i_lt
  have hL := h.st.unused hs.1 hs.2.1
  have hf : S.fr ≤ s := Nat.le_of_not_lt fun hlt => h.fru s hlt hL
  have hu : ∀ t, S.fr ≤ t → t < s → S.L t ≠ -1 := fun t _ ht => h.st.usedI (hs.2.2 t ht)
  have hxm : x ∈ Q i := by rw [hx.eq]; simp
  have hxu := h.st.us i x hxm
  have hQ : Q i = (X ++ [x]) ++ Y := by rw [hx.eq]; simp
  have h1 := h.tied v hs hx.i_lt hQ
  have hc := h.st.ch i X x Y hx.eq
  rw [show (X ++ [x]) ++ s :: Y = X ++ x :: s :: Y by simp, lst_snoc] at h1
  exact ⟨_, h1, l_after S.fr s x i v (hd Y) hf hs.1 (by omega) hu hL hxu.1 hx.i_lt hxu.2 hc.1 (hd_lt h hQ) (by rw [hen.2.2]; omega)⟩
theorem p_after_full (h : Inv n m V Q S) (hn : n ≤ 8000) {x i : Nat} {X Y : List Nat} (hs : fullAt n Q) (hx : AtQ m Q x i X Y) (v : Int) :
    ∃ S', Inv n m V Q S' ∧ LocP 46 [.int .i64 (x : Nat), .int .i64 v] n m (poolS n m V S) (.tup [.int .i64 0, .int .i64 5]) (poolS n m V S') := by
  have hxu := h.st.us i x (by rw [hx.eq]; simp)
  exact ⟨_, p_full h hs, l_after_full S.fr x v h.frn (by omega) (fun t _ ht => h.st.usedI (hs t ht)) hxu.1 (by rw [hxu.2]; omega)⟩
theorem p_after_no (h : Inv n m V Q S) (hn0 : 0 < n) (s : Int) (hs : noSlot n Q s) (v : Int) :
    LocP 46 [.int .i64 s, .int .i64 v] n m (poolS n m V S) (.tup [.int .i64 0, .int .i64 4]) (poolS n m V S) := l_after_no s v hn0 (noSlot_L h hs)
theorem un_facts (h : Inv n m V Q S) {s i : Nat} {X Y : List Nat} (hx : AtQ m Q s i X Y) : s < n ∧ S.L s = (i : Nat) ∧ S.N s = hd Y ∧ S.P s = lst X ∧ (lst X = -1 ∨ ∃ a : Nat, a < n ∧ a ≠ s ∧ lst X = (a : Int)) ∧ (hd Y = -1 ∨ ∃ a : Nat, a < n ∧ hd Y = (a : Int)) ∧ 0 < S.C i ∧ S.C i ≤ n := by
  have hu := h.st.us i s (by rw [hx.eq]; simp)
  have hc := h.st.ch i X s Y hx.eq
  have hnd := h.st.nd i
  have hlen := h.len i
  have hen := (h.st.en i hx.i_lt).2.2
  rw [hx.eq] at hnd hen hlen
  refine ⟨hu.1, hu.2, hc.1, hc.2, ?_, hd_lt h (X := X ++ [s]) (by rw [hx.eq]; simp), by rw [hen]; simp; omega, by rw [hen]; omega⟩
  rcases lst_ge (X := X) with h1 | ⟨a, h1, h2⟩
  · exact .inl h1
  · exact .inr ⟨a, (h.st.us i a (by rw [hx.eq]; simp [h1])).1, fun e => (List.nodup_append.1 hnd).2.2 a h1 s (List.mem_cons_self ..) e, h2⟩
theorem p_take (h : Inv n m V Q S) (hn : n ≤ 8000) {s i : Nat} {X Y : List Nat} (hx : AtQ m Q s i X Y) :
    ∃ S', Inv n m (updI V s 0) (updQ Q i (X ++ Y)) S' ∧ LocP 25 [.int .i64 (s : Nat)] n m (poolS n m V S) (.tup [.int .i64 (V s), .int .i64 0]) (poolS n m (updI V s 0) S') := by
  obtain ⟨h1, h2, h3, h4, h5, h6, h7, h8⟩ := un_facts h hx
  have hst := h.st.untie hx.i_lt hx.eq
  refine ⟨⟨min S.fr s, updI S.L s (-1), unN S.N s (lst X) (hd Y), unP S.P s (lst X) (hd Y), unA S.A i (lst X) (hd Y), unA S.B i (hd Y) (lst X), updI S.C i (S.C i - 1)⟩, ⟨hst, fun t ht hl => ?_, by have := h.frn; dsimp only; omega, fun t ht => ?_⟩, l_take S.fr s i (lst X) (hd Y) h1 hx.i_lt h2 h3 h4 h5 h6 ⟨h7, by omega⟩⟩
  · dsimp only at hl
    by_cases e : t = s
    · subst e; rw [updI_at]
    · rw [updI_ne e] at hl ⊢; exact h.val t ht hl
  · dsimp only at ht ⊢
    rw [updI_ne (by omega)]
    exact h.fru t (by omega)
theorem p_take_no (h : Inv n m V Q S) (hn0 : 0 < n) (s : Int) (hs : noSlot n Q s) :
    LocP 25 [.int .i64 s] n m (poolS n m V S) (.tup [.int .i64 0, .int .i64 4]) (poolS n m V S) := l_take_no s hn0 (noSlot_L h hs)
theorem p_move (h : Inv n m V Q S) (hn : n ≤ 8000) {s i j : Nat} {X Y : List Nat} (hx : AtQ m Q s i X Y) (hj : j < m) (b : Bool) :
    ∃ S', Inv n m V (updQ (updQ Q i (X ++ Y)) j (if b = true then s :: updQ Q i (X ++ Y) j else updQ Q i (X ++ Y) j ++ [s])) S' ∧ LocP 55 [.int .i64 (s : Nat), .int .i64 (j : Nat), .bool b] n m (poolS n m V S) (.int .i64 0) (poolS n m V S') := by
  obtain ⟨h1, h2, h3, h4, h5, h6, h7, h8⟩ := un_facts h hx
  have hst := h.st.untie hx.i_lt hx.eq
  have hi := hx.i_lt
  have hen := hst.en j hj
  have hlen : (updQ Q i (X ++ Y) j).length ≤ n := len_le n _ (hst.nd j) fun x hx => (hst.us j x hx).1
  have hL : updI S.L s (-1) s = -1 := updI_at ..
  have fin : ∀ {X' Y' : List Nat}, updQ Q i (X ++ Y) j = X' ++ Y' → Inv n m V (updQ (updQ Q i (X ++ Y)) j (X' ++ s :: Y')) ⟨S.fr, updI (updI S.L s (-1)) s j, tieN (unN S.N s (lst X) (hd Y)) s (lst X') (hd Y'), tieP (unP S.P s (lst X) (hd Y)) s (lst X') (hd Y'), tieA (unA S.A i (lst X) (hd Y)) j s (lst X'), tieA (unA S.B i (hd Y) (lst X)) j s (hd Y'), updI (updI S.C i (S.C i - 1)) j (updI S.C i (S.C i - 1) j + 1)⟩ := fun {X' Y'} hQ => by
    refine ⟨hst.tie h1 hL hj hQ, fun t ht hl => ?_, h.frn, fun t ht => ?_⟩
    · dsimp only at hl
      by_cases e : t = s
      · subst e; rw [updI_at] at hl; omega
      · rw [updI_ne e, updI_ne e] at hl; exact h.val t ht hl
    · dsimp only at ht ⊢
      by_cases e : t = s
      · subst e; rw [updI_at]; omega
      · rw [updI_ne e, updI_ne e]; exact h.fru t ht
  have pl : ∀ {X' Y' : List Nat}, updQ Q i (X ++ Y) j = X' ++ Y' → (lst X' = -1 ∨ ∃ a : Nat, a < n ∧ lst X' = (a : Int)) ∧ (hd Y' = -1 ∨ ∃ a : Nat, a < n ∧ hd Y' = (a : Int)) := fun {X' Y'} hQ => by
    constructor
    · rcases lst_ge (X := X') with k1 | ⟨a, k1, k2⟩
      · exact .inl k1
      · exact .inr ⟨a, (hst.us j a (by rw [hQ]; exact List.mem_append_left _ k1)).1, k2⟩
    · rcases hd_ge (X := Y') with k1 | ⟨a, k1, k2⟩
      · exact .inl k1
      · exact .inr ⟨a, (hst.us j a (by rw [hQ]; exact List.mem_append_right _ k1)).1, k2⟩
  have hC : 0 ≤ updI S.C i (S.C i - 1) j ∧ updI S.C i (S.C i - 1) j < 9000 := by rw [hen.2.2]; omega
  cases b
  · have hQ : updQ Q i (X ++ Y) j = updQ Q i (X ++ Y) j ++ [] := by simp
    exact ⟨_, fin hQ, l_move s i j false (lst X) (hd Y) _ _ h1 hi hj h2 h3 h4 h5 h6 ⟨h7, by omega⟩ (.inr ⟨rfl, hen.2.1.symm, rfl⟩) (pl hQ).1 (.inl rfl) hC⟩
  · have hQ : updQ Q i (X ++ Y) j = [] ++ updQ Q i (X ++ Y) j := by simp
    exact ⟨_, fin hQ, l_move s i j true (lst X) (hd Y) _ _ h1 hi hj h2 h3 h4 h5 h6 ⟨h7, by omega⟩ (.inl ⟨rfl, rfl, hen.1.symm⟩) (.inl rfl) (pl hQ).2 hC⟩
theorem p_move_no (h : Inv n m V Q S) (hn0 : 0 < n) (s j : Int) (b : Bool) (hs : noSlot n Q s) :
    LocP 55 [.int .i64 s, .int .i64 j, .bool b] n m (poolS n m V S) (.int .i64 4) (poolS n m V S) := l_move_no s j b hn0 (noSlot_L h hs)
theorem p_move_bad (h : Inv n m V Q S) {s i : Nat} {X Y : List Nat} (hx : AtQ m Q s i X Y) (j : Int) (b : Bool) (hj : j < 0 ∨ (m : Int) ≤ j) :
    LocP 55 [.int .i64 (s : Nat), .int .i64 j, .bool b] n m (poolS n m V S) (.int .i64 7) (poolS n m V S) := by
  obtain ⟨h1, h2, _⟩ := un_facts h hx
  exact l_move_bad s j b h1 (by omega) hj
theorem p_put (h : Inv n m V Q S) {s i : Nat} {X Y : List Nat} (hx : AtQ m Q s i X Y) (v : Int) :
    Inv n m (updI V s v) Q S ∧ LocP 57 [.int .i64 (s : Nat), .int .i64 v] n m (poolS n m V S) (.int .i64 0) (poolS n m (updI V s v) S) := by
  obtain ⟨h1, h2, _⟩ := un_facts h hx
  refine ⟨⟨h.st, fun t ht hl => ?_, h.frn, h.fru⟩, l_put s v h1 (by omega)⟩
  unfold updI; split
  · rename_i e; subst e; omega
  · exact h.val t ht hl
theorem p_put_no (h : Inv n m V Q S) (hn0 : 0 < n) (s : Int) (v : Int) (hs : noSlot n Q s) : LocP 57 [.int .i64 s, .int .i64 v] n m (poolS n m V S) (.int .i64 4) (poolS n m V S) := l_put_no s v hn0 (noSlot_L h hs)
theorem p_get (h : Inv n m V Q S) {s i : Nat} {X Y : List Nat} (hx : AtQ m Q s i X Y) : LocP 59 [.int .i64 (s : Nat)] n m (poolS n m V S) (.tup [.int .i64 (V s), .int .i64 0]) (poolS n m V S) := by
  obtain ⟨h1, h2, _⟩ := un_facts h hx
  exact l_get s h1 (by omega)
theorem p_get_no (h : Inv n m V Q S) (hn0 : 0 < n) (s : Int) (hs : noSlot n Q s) : LocP 59 [.int .i64 s] n m (poolS n m V S) (.tup [.int .i64 0, .int .i64 4]) (poolS n m V S) := l_get_no s hn0 (noSlot_L h hs)
theorem p_where (h : Inv n m V Q S) {s i : Nat} {X Y : List Nat} (hx : AtQ m Q s i X Y) : LocP 61 [.int .i64 (s : Nat)] n m (poolS n m V S) (.tup [.int .i64 (i : Nat), .int .i64 0]) (poolS n m V S) := by
  obtain ⟨h1, h2, _⟩ := un_facts h hx
  rw [← h2]
  exact l_where s h1 (by omega)
theorem p_where_no (h : Inv n m V Q S) (hn0 : 0 < n) (s : Int) (hs : noSlot n Q s) : LocP 61 [.int .i64 s] n m (poolS n m V S) (.tup [.int .i64 0, .int .i64 4]) (poolS n m V S) := l_where_no s hn0 (noSlot_L h hs)
/-- What a look at a slot that may be none answers. -/
def orErr (p : Int) (e : Int) : AV := .tup [.int .i64 (if p = -1 then 0 else p), .int .i64 (if p = -1 then e else 0)]
theorem p_step (h : Inv n m V Q S) {s i : Nat} {X Y : List Nat} (hx : AtQ m Q s i X Y) (b : Bool) : LocP 63 [.int .i64 (s : Nat), .bool b] n m (poolS n m V S) (orErr (if b = true then lst X else hd Y) 9) (poolS n m V S) := by
  obtain ⟨h1, h2, h3, h4, _⟩ := un_facts h hx
  have := l_step (m := m) (fr := S.fr) (V := V) (P := S.P) (N := S.N) (A := S.A) (B := S.B) (C := S.C) s b h1 (by omega : S.L s ≠ -1)
  rw [h3, h4] at this
  exact this
theorem p_step_no (h : Inv n m V Q S) (hn0 : 0 < n) (s : Int) (b : Bool) (hs : noSlot n Q s) : LocP 63 [.int .i64 s, .bool b] n m (poolS n m V S) (.tup [.int .i64 0, .int .i64 4]) (poolS n m V S) := l_step_no s b hn0 (noSlot_L h hs)
theorem p_end (h : Inv n m V Q S) (hn0 : 0 < n) {i : Nat} (hi : i < m) (b : Bool) : LocP 65 [.int .i64 (i : Nat), .bool b] n m (poolS n m V S) (orErr (if b = true then hd (Q i) else lst (Q i)) 4) (poolS n m V S) := by
  have he := h.st.en i hi
  have := l_end (n := n) (m := m) (fr := S.fr) (V := V) (L := S.L) (P := S.P) (N := S.N) (A := S.A) (B := S.B) (C := S.C) i b hn0 hi
  rw [he.1, he.2.1] at this
  exact this
theorem p_end_no (hn0 : 0 < n) (i : Int) (b : Bool) (hi : i < 0 ∨ (m : Int) ≤ i) : LocP 65 [.int .i64 i, .bool b] n m (poolS n m V S) (.tup [.int .i64 0, .int .i64 7]) (poolS n m V S) := l_end_no i b hn0 hi
theorem p_len (h : Inv n m V Q S) (hn0 : 0 < n) {i : Nat} (hi : i < m) : LocP 67 [.int .i64 (i : Nat)] n m (poolS n m V S) (.tup [.int .i64 ((Q i).length : Nat), .int .i64 0]) (poolS n m V S) := by
  rw [← (h.st.en i hi).2.2]
  exact l_len i hn0 hi
theorem p_len_no (hn0 : 0 < n) (i : Int) (hi : i < 0 ∨ (m : Int) ≤ i) : LocP 67 [.int .i64 i] n m (poolS n m V S) (.tup [.int .i64 0, .int .i64 7]) (poolS n m V S) := l_len_no i hn0 hi
end
end Go.Proofs.Ytkjimnhmiojcdaa
