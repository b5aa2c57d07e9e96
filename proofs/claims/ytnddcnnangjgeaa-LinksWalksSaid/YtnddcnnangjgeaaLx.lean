/-
  LinksWalks: what is needed of walks that take slots out, or move them.
-/
import Derived.Test.YtnddcnnangjgeaaLv
set_option linter.unusedSimpArgs false
set_option linter.unusedVariables false
namespace Go.Pol
theorem ord_at {n m : Nat} {L N P A B C : Nat → Int} {Q : Nat → List Nat} (h : St n m L N P A B C Q) {i x : Nat} {b : Bool} {X Y : List Nat} (he : ord Q i b = X ++ x :: Y) : (if b = true then P else N) x = hd Y := by
  cases b
  · exact (h.ch i X x Y he).1
  · have he2 : Q i = Y.reverse ++ x :: X.reverse := by
      have : (ord Q i true).reverse = (X ++ x :: Y).reverse := by rw [he]
      simpa [ord] using this
    have := (h.ch i _ x _ he2).2
    rw [if_pos rfl, this, ← hd_rev, List.reverse_reverse]
/-- The slot in its list, from its place in the order. -/
theorem at_ord {m : Nat} {Q : Nat → List Nat} {i x : Nat} {b : Bool} {X Y : List Nat} (hi : i < m) (he : ord Q i b = X ++ x :: Y) : ∃ X' Y', AtQ m Q x i X' Y' ∧ ∀ Q' : Nat → List Nat, Q' i = X' ++ Y' → ord Q' i b = X ++ Y := by
  cases b
  · exact ⟨X, Y, ⟨hi, he⟩, fun Q' h => h⟩
  · refine ⟨Y.reverse, X.reverse, ⟨hi, ?_⟩, fun Q' h => ?_⟩
    · have : (ord Q i true).reverse = (X ++ x :: Y).reverse := by rw [he]
      simpa [ord] using this
    · simp [ord, h]
theorem ord_taken {m : Nat} {Q : Nat → List Nat} {i x : Nat} {b : Bool} {X Y X' Y' : List Nat} (h : ∀ Q' : Nat → List Nat, Q' i = X' ++ Y' → ord Q' i b = X ++ Y) : ord (updQ Q i (X' ++ Y')) i b = X ++ Y := h _ (updQ_at ..)
theorem ord_moved {Q : Nat → List Nat} {i j x : Nat} {b : Bool} {X Y X' Y' : List Nat} (h : ∀ Q' : Nat → List Nat, Q' i = X' ++ Y' → ord Q' i b = X ++ Y) : ∃ M, ord (updQ (updQ Q i (X' ++ Y')) j (if (!b) = true then x :: updQ Q i (X' ++ Y') j else updQ Q i (X' ++ Y') j ++ [x])) i b = M ++ Y := by
  by_cases e : i = j
  · subst e
    have h1 := h (updQ Q i (X' ++ Y')) (updQ_at ..)
    refine ⟨x :: X, ?_⟩
    cases b
    · simp only [ord, updQ_at] at h1 ⊢
      simp at h1 ⊢; exact h1
    · simp only [ord, updQ_at] at h1 ⊢
      simp at h1 ⊢; exact h1
  · refine ⟨X, ?_⟩
    have : ord (updQ (updQ Q i (X' ++ Y')) j (if (!b) = true then x :: updQ Q i (X' ++ Y') j else updQ Q i (X' ++ Y') j ++ [x])) i b = ord (updQ Q i (X' ++ Y')) i b := by
      unfold ord
      rw [show updQ (updQ Q i (X' ++ Y')) j (if (!b) = true then x :: updQ Q i (X' ++ Y') j else updQ Q i (X' ++ Y') j ++ [x]) i = updQ Q i (X' ++ Y') i by
        exact if_neg e]
    rw [this]; exact h _ (updQ_at ..)
/-- What has been yielded: a slice of its own. -/
def outV : Nat → Go.Am.AV
  | 0 => .nils
  | k + 1 => .sl 30 0 (k + 1) (k + 1) 1
def outH (O : List Nat) : Nat → List (Nat × Go.Am.AObj)
  | 0 => []
  | k + 1 => [(30, .cells (Go.Am.flat slotA (O.take (k + 1))))]
/-- How many slots the lists below have. -/
def metN (Q : Nat → List Nat) : Nat → Nat
  | 0 => 0
  | k + 1 => metN Q k + (Q k).length
theorem met_le {n m : Nat} {L N P A B C : Nat → Int} {Q : Nat → List Nat} (h : St n m L N P A B C Q) (k : Nat) : metN Q k ≤ n := by
  have hx : ∀ k, ∃ l : List Nat, l.length = metN Q k ∧ l.Nodup ∧ ∀ s, s ∈ l → s < n ∧ ∃ j, j < k ∧ s ∈ Q j := fun k => by
    induction k with
    | zero => exact ⟨[], rfl, List.nodup_nil, fun s hs => by cases hs⟩
    | succ k ih =>
      obtain ⟨l, h1, h2, h3⟩ := ih
      refine ⟨l ++ Q k, by simp [metN, h1], List.nodup_append.2 ⟨h2, h.nd k, fun a ha b hb e => ?_⟩, fun s hs => ?_⟩
      · subst e
        obtain ⟨j, hj, hm⟩ := (h3 a ha).2
        have := h.one hm hb
        omega
      · rcases List.mem_append.1 hs with hs | hs
        · obtain ⟨a1, j, a2, a3⟩ := h3 s hs
          exact ⟨a1, j, by omega, a3⟩
        · exact ⟨(h.us k s hs).1, k, by omega, hs⟩
  obtain ⟨l, h1, h2, h3⟩ := hx k
  rw [← h1]
  exact len_le n l h2 fun s hs => (h3 s hs).1
end Go.Pol
namespace Go.Proofs.Ytnddcnnangjgeaa
open Go Go.Am Go.Pol
theorem wkx_Lx {p : Prop} (h : p := by (refine weak_s (by exact oneOf_of rfl) (by exact subH_of rfl) (by intro hs; (repeat' ((try (conv => whnf)); first | with_reducible exact True.intro | with_reducible refine And.intro ?_ ?_ | (with_reducible refine WkX.mk ?_; first | exact wk_undef | exact wk_int (by first | rfl | omega | (dsimp only; omega)) | exact wk_bool rfl | exact wk_ptr rfl (by first | decide | simp | omega) | exact wk_sl rfl (by first | decide | simp | omega) (by first | rfl | omega | simp) (by first | omega | simp) (by first | omega | simp) | exact wk_own rfl (by first | decide | simp | omega) | exact wk_nil0 (by first | rfl | simp) | exact wk_slown rfl (by first | decide | omega | (simp; done)) (by first | omega | (simp; done)) (by first | rfl | omega | (simp; done) | (simp; omega)) | exact wk_plain hs (by (first | assumption | exact plain_int | exact plain_bool | exact plain_undef | exact plain_nils | exact plain_nilp | exact plain_nilf | exact plain_str | with_reducible apply slots_plain | with_reducible apply plain_calls | with_reducible apply plain_stateLk | with_reducible apply plain_callI)) | (with_reducible refine wk_fn ?_ ?_ <;> repeat' (first | with_reducible exact wkl_nil | with_reducible refine wkl_cons ?_ ?_ | exact wk_ptr rfl (by first | decide | simp | omega))) | (with_reducible refine wk_agg ?_; repeat' (first | with_reducible exact wkl_nil | with_reducible refine wkl_cons ?_ ?_ | exact wk_int (by first | rfl | omega | (dsimp only; omega)) | exact wk_bool rfl)) | exact wk_yld rfl (by first | decide | simp | omega))))) (by intro hs; (try dsimp only); (repeat' (first | with_reducible exact wko_nil | refine wko_plain hs (by first | decide | omega | simp) rfl (by first | rfl) (by (first | with_reducible assumption | with_reducible apply cells_plain | with_reducible apply ends_plain | with_reducible apply of_plain _ _ | with_reducible apply memI_plain _ _ | with_reducible apply plain_map (fun _ => plain_int) | with_reducible apply plain_map (fun _ => plain_bool) | ((repeat' (first | exact plain_all0 | refine plain_all2 ?_ ?_ | exact plain_int | first | assumption | exact plain_int | exact plain_bool | exact plain_undef | exact plain_nils | exact plain_nilp | exact plain_nilf | exact plain_str | with_reducible apply slots_plain | with_reducible apply plain_calls | with_reducible apply plain_stateLk | with_reducible apply plain_callI)); done) | ((refine plain_app ?_ ?_) <;> (first | with_reducible assumption | with_reducible apply cells_plain | with_reducible apply ends_plain | with_reducible apply of_plain _ _ | with_reducible apply memI_plain _ _ | with_reducible apply plain_map (fun _ => plain_int) | with_reducible apply plain_map (fun _ => plain_bool) | ((repeat' (first | exact plain_all0 | refine plain_all2 ?_ ?_ | exact plain_int | first | assumption | exact plain_int | exact plain_bool | exact plain_undef | exact plain_nils | exact plain_nilp | exact plain_nilf | exact plain_str | with_reducible apply slots_plain | with_reducible apply plain_calls | with_reducible apply plain_stateLk | with_reducible apply plain_callI)); done))))) ?_ | refine wko_cells (by first | decide | omega | simp) rfl (by repeat' (first | with_reducible exact wkl_nil | with_reducible refine wkl_cons ?_ ?_ | (first | exact wk_undef | exact wk_int (by first | rfl | omega | (dsimp only; omega)) | exact wk_bool rfl | exact wk_ptr rfl (by first | decide | simp | omega) | exact wk_sl rfl (by first | decide | simp | omega) (by first | rfl | omega | simp) (by first | omega | simp) (by first | omega | simp) | exact wk_own rfl (by first | decide | simp | omega) | exact wk_nil0 (by first | rfl | simp) | exact wk_slown rfl (by first | decide | omega | (simp; done)) (by first | omega | (simp; done)) (by first | rfl | omega | (simp; done) | (simp; omega)) | exact wk_plain hs (by (first | assumption | exact plain_int | exact plain_bool | exact plain_undef | exact plain_nils | exact plain_nilp | exact plain_nilf | exact plain_str | with_reducible apply slots_plain | with_reducible apply plain_calls | with_reducible apply plain_stateLk | with_reducible apply plain_callI)) | (with_reducible refine wk_fn ?_ ?_ <;> repeat' (first | with_reducible exact wkl_nil | with_reducible refine wkl_cons ?_ ?_ | exact wk_ptr rfl (by first | decide | simp | omega))) | (with_reducible refine wk_agg ?_; repeat' (first | with_reducible exact wkl_nil | with_reducible refine wkl_cons ?_ ?_ | exact wk_int (by first | rfl | omega | (dsimp only; omega)) | exact wk_bool rfl)) | exact wk_yld rfl (by first | decide | simp | omega)))) ?_ | refine wko_loop (by first | decide | omega | simp) rfl (by ((try subst hF); exact wkl_sd (wkf_sget (by (repeat' ((try (conv => whnf)); first | with_reducible exact True.intro | with_reducible refine And.intro ?_ ?_ | (with_reducible refine WkX.mk ?_; first | exact wk_undef | exact wk_int (by first | rfl | omega | (dsimp only; omega)) | exact wk_bool rfl | exact wk_ptr rfl (by first | decide | simp | omega) | exact wk_sl rfl (by first | decide | simp | omega) (by first | rfl | omega | simp) (by first | omega | simp) (by first | omega | simp) | exact wk_own rfl (by first | decide | simp | omega) | exact wk_nil0 (by first | rfl | simp) | exact wk_slown rfl (by first | decide | omega | (simp; done)) (by first | omega | (simp; done)) (by first | rfl | omega | (simp; done) | (simp; omega)) | exact wk_plain hs (by (first | assumption | exact plain_int | exact plain_bool | exact plain_undef | exact plain_nils | exact plain_nilp | exact plain_nilf | exact plain_str | with_reducible apply slots_plain | with_reducible apply plain_calls | with_reducible apply plain_stateLk | with_reducible apply plain_callI)) | (with_reducible refine wk_fn ?_ ?_ <;> repeat' (first | with_reducible exact wkl_nil | with_reducible refine wkl_cons ?_ ?_ | exact wk_ptr rfl (by first | decide | simp | omega))) | (with_reducible refine wk_agg ?_; repeat' (first | with_reducible exact wkl_nil | with_reducible refine wkl_cons ?_ ?_ | exact wk_int (by first | rfl | omega | (dsimp only; omega)) | exact wk_bool rfl)) | exact wk_yld rfl (by first | decide | simp | omega)))))))) ?_ | exact wko_nil))))) : p := h
section
variable {n m : Nat} {V : Nat → Int} {Q : Nat → List Nat} {S : PS}
theorem p_walked_no (h : GoodP n m V Q S) (i : Int) (hi : i < 0 ∨ (m : Int) ≤ i) (b : Bool) : LocP 12 [.int .i64 i, .bool b] n m (poolS n m V S) (slotsA []) (poolS n m V S) := by
  have hm := h.m_le
  have hen := p_end_no (V := V) (S := S) h.n_pos i (!b) hi
  refine LocP.mk (loc_x hmix b12 rfl ?_)
  unfold c12
  ((repeat' ((try (conv => whnf)); first | (with_reducible first | refine run_cons ?_ | refine runq_cons ?_ | refine code_seq ?_ | refine code_reg ?_ | refine code_cond ?_ | refine run_nil ?_ | refine runq_nil ?_ | refine rund_op rfl ?_ | refine rund_nil ?_ | refine code_block ?_ | refine code_skip ?_ | refine code_exit ?_ | refine code_ret ?_ | refine code_range ?_ | refine rund_fast (by decide +kernel) ?_ | refine rund_slow (by decide +kernel) ?_ | refine br_tt ?_ | refine br_ff ?_ | refine br_n ?_ | refine br_and ?_ | refine br_or ?_ | refine br_t (by assumption) ?_ | refine br_f (by assumption) ?_ | refine eq_i64 (by omega) ?_ | refine el_tn ?_) | (with_reducible refine br_d ?_ ?_ <;> intro hsp <;> first | (exfalso; omega) | skip) | ((with_reducible refine ck_x ?_ ?_); focus (first | omega | rfl | assumption | decide | (simp only [List.length_map, List.length_cons, List.length_nil]; omega))) | (with_reducible first | refine eq_tn ?_ | refine eq_tn1 ?_ | refine eq_tn2 ?_ | refine eq_m1 ?_ | refine eq_m2 ?_ | refine eq_zm ?_ | refine eq_z ?_ | refine len_map ?_ | refine len_sl ?_ | refine len_nils ?_ | refine len_own' ?_ | refine len_isl ?_ | refine eq_u8 (by omega) ?_ | refine eq_u16 (by omega) ?_) | (with_reducible first | refine eq_rfl ?_ | refine ChkX.mk (by kernel_rfl) ?_ | refine code_q rfl ?_ | refine code_d (by decide +kernel) ?_ | refine end_go rfl ?_) | (refine cx_in hmix b47 rfl ?_; unfold c47) | refine len_map ?_ | refine len_isl ?_ | refine el_of rfl rfl ?_ | refine del_own ?_ | refine del_own' rfl ?_ | refine as_go rfl ?_ | refine rd_go rfl ?_ | refine rg_end rfl ?_ | refine flat_ownX ?_ | (with_reducible refine br_b ?_ ?_ <;> intro hsp))) <;> (try (conv => whnf)))
  refine range_x hmix b90 rfl trivial ?_
  intro frl asl bdl hF hA hB
  unfold c90
  ((repeat' ((try (conv => whnf)); first | (with_reducible first | refine run_cons ?_ | refine runq_cons ?_ | refine code_seq ?_ | refine code_reg ?_ | refine code_cond ?_ | refine run_nil ?_ | refine runq_nil ?_ | refine rund_op rfl ?_ | refine rund_nil ?_ | refine code_block ?_ | refine code_skip ?_ | refine code_exit ?_ | refine code_ret ?_ | refine code_range ?_ | refine rund_fast (by decide +kernel) ?_ | refine rund_slow (by decide +kernel) ?_ | refine br_tt ?_ | refine br_ff ?_ | refine br_n ?_ | refine br_and ?_ | refine br_or ?_ | refine br_t (by assumption) ?_ | refine br_f (by assumption) ?_ | refine eq_i64 (by omega) ?_ | refine el_tn ?_) | (with_reducible refine br_d ?_ ?_ <;> intro hsp <;> first | (exfalso; omega) | skip) | ((with_reducible refine ck_x ?_ ?_); focus (first | omega | rfl | assumption | decide | (simp only [List.length_map, List.length_cons, List.length_nil]; omega))) | (with_reducible first | refine eq_tn ?_ | refine eq_tn1 ?_ | refine eq_tn2 ?_ | refine eq_m1 ?_ | refine eq_m2 ?_ | refine eq_zm ?_ | refine eq_z ?_ | refine len_map ?_ | refine len_sl ?_ | refine len_nils ?_ | refine len_own' ?_ | refine len_isl ?_ | refine eq_u8 (by omega) ?_ | refine eq_u16 (by omega) ?_) | (with_reducible first | refine eq_rfl ?_ | refine ChkX.mk (by kernel_rfl) ?_ | refine code_q rfl ?_ | refine code_d (by decide +kernel) ?_ | refine end_go rfl ?_) | refine cx_pool hen rfl rfl rfl (by decide) (by simp [plain_int, plain_bool]) plain_ints rfl ?_ | refine len_map ?_ | refine len_isl ?_ | refine el_of rfl rfl ?_ | refine del_own ?_ | refine del_own' rfl ?_ | refine as_go rfl ?_ | refine rd_go rfl ?_ | refine rg_end rfl ?_ | refine flat_ownX ?_ | (with_reducible refine br_b ?_ ?_ <;> intro hsp))) <;> (try (conv => whnf)))
  (refine loop_x [0, 1, 2, 3, 5, 6] (fun (k : Nat) => []) (fun (k : Nat) => ⟨poolB n m (S.fr : Nat) V S.L S.N S.P S.A S.B S.C ++ [(3, .cells [.nils]), (4, .cells [.ptr 0 0]), (5, .cells [.int .i64 i]), (6, .cells [.bool b]), (7, .loop .ready none frl [13, 14] asl bdl)], 8⟩) (fun (k : Nat) => k = 0) (fun (k : Nat) => 0) (0) [] rfl (fun _ => by first | exact Nat.zero_le _ | (dsimp only; omega)) ?_ (by ((try (conv => whnf)); exact wkx_Lx)) ?_)
  · rfl
  intro k hk
  ((repeat' ((try (conv => whnf)); first | (with_reducible first | refine run_cons ?_ | refine runq_cons ?_ | refine code_seq ?_ | refine code_reg ?_ | refine code_cond ?_ | refine run_nil ?_ | refine runq_nil ?_ | refine rund_op rfl ?_ | refine rund_nil ?_ | refine code_block ?_ | refine code_skip ?_ | refine code_exit ?_ | refine code_ret ?_ | refine code_range ?_ | refine rund_fast (by decide +kernel) ?_ | refine rund_slow (by decide +kernel) ?_ | refine br_tt ?_ | refine br_ff ?_ | refine br_n ?_ | refine br_and ?_ | refine br_or ?_ | refine br_t (by assumption) ?_ | refine br_f (by assumption) ?_ | refine eq_i64 (by omega) ?_ | refine el_tn ?_) | (with_reducible refine br_d ?_ ?_ <;> intro hsp <;> first | (exfalso; omega) | skip) | ((with_reducible refine ck_x ?_ ?_); focus (first | omega | rfl | assumption | decide | (simp only [List.length_map, List.length_cons, List.length_nil]; omega))) | (with_reducible first | refine eq_tn ?_ | refine eq_tn1 ?_ | refine eq_tn2 ?_ | refine eq_m1 ?_ | refine eq_m2 ?_ | refine eq_zm ?_ | refine eq_z ?_ | refine len_map ?_ | refine len_sl ?_ | refine len_nils ?_ | refine len_own' ?_ | refine len_isl ?_ | refine eq_u8 (by omega) ?_ | refine eq_u16 (by omega) ?_) | (with_reducible first | refine eq_rfl ?_ | refine ChkX.mk (by kernel_rfl) ?_ | refine code_q rfl ?_ | refine code_d (by decide +kernel) ?_ | refine end_go rfl ?_) | refine len_map ?_ | refine len_isl ?_ | refine el_of rfl rfl ?_ | refine del_own ?_ | refine del_own' rfl ?_ | refine as_go rfl ?_ | refine rd_go rfl ?_ | refine rg_end rfl ?_ | refine flat_ownX ?_ | (with_reducible refine br_b ?_ ?_ <;> intro hsp))) <;> (try (conv => whnf)))
  exact end_pool (wk_nils (σ := rn [])) rfl rfl rfl
end
theorem filtK_own {α : Type} {ns : List Nat} {i : Nat} {f : α → List AV} {L : List α} {k : List (Nat × AObj) → Prop} (h : ns.contains i = false) (hk : k (ownH i f L)) : filtK ns (ownH i f L) k := by
  by_cases hz : L.length = 0
  · rw [ownH_z hz] at hk ⊢; exact hk
  · rw [ownH_s hz] at hk ⊢
    show bif ns.contains i then _ else _
    rw [h]; exact hk
theorem len_outV : ∀ {k : Nat} {K : AV → Prop}, K (.int .i64 (k : Nat)) → LenX (outV k) K
  | 0, _, h => len_nils h
  | _ + 1, _, h => len_sl h
theorem k_sameSlots (l : List Nat) (hl : l.length ≤ 8000) : PureS 11 [slotsA l, slotsA l] (.bool true) := by
  have h := k_sameInts (l.map fun s => ((s : Nat) : Int)) (by simp; omega)
  rw [List.map_map] at h
  exact ⟨h⟩
theorem k_sameNil : PureS 11 [slotsA [], .nils] (.bool true) := ⟨closed_val (n := 99) hmix tab_ok orcOk_none plainG rfl (by simp [slots_plain, plain_nils]) plain_bool (by kernel_rfl)⟩
theorem k_sameNil2 : PureS 11 [.nils, slotsA []] (.bool true) := ⟨closed_val (n := 99) hmix tab_ok orcOk_none plainG rfl (by simp [slots_plain, plain_nils]) plain_bool (by kernel_rfl)⟩
end Go.Proofs.Ytnddcnnangjgeaa
