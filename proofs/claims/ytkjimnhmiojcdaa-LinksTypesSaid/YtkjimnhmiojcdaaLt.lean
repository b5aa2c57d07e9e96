/-
  The law's made; states that have the same lists; Push and After that are taken back.
-/
import Derived.Test.YtkjimnhmiojcdaaAmWt
import Derived.Test.YtkjimnhmiojcdaaLiD
set_option linter.unusedSimpArgs false
set_option linter.unusedVariables false
namespace Go.Pol
open Go.Am
theorem St.uniq {n m : Nat} {L N P A B C L' N' P' A' B' C' : Nat → Int} {Q : Nat → List Nat} (h : St n m L N P A B C Q) (h' : St n m L' N' P' A' B' C' Q) : (∀ s, s < n → L s = L' s ∧ N s = N' s ∧ P s = P' s) ∧ ∀ i, i < m → A i = A' i ∧ B i = B' i := by
  refine ⟨fun s hs => ?_, fun i hi => ?_⟩
  · by_cases hu : ∃ i, s ∈ Q i
    · obtain ⟨i, hi⟩ := hu
      obtain ⟨X, Y, he⟩ := List.append_of_mem hi
      have h1 := h.ch i X s Y he
      have h2 := h'.ch i X s Y he
      exact ⟨(h.us i s hi).2.trans (h'.us i s hi).2.symm, h1.1.trans h2.1.symm, h1.2.trans h2.2.symm⟩
    · have hn : ∀ j, s ∉ Q j := fun j hj => hu ⟨j, hj⟩
      rcases h.fre s hs with ⟨a1, a2, a3⟩ | ⟨j, _, _, hm⟩
      · rcases h'.fre s hs with ⟨b1, b2, b3⟩ | ⟨j, _, _, hm⟩
        · exact ⟨a1.trans b1.symm, a2.trans b2.symm, a3.trans b3.symm⟩
        · exact absurd hm (hn j)
      · exact absurd hm (hn j)
  · have h1 := h.en i hi
    have h2 := h'.en i hi
    exact ⟨h1.1.trans h2.1.symm, h1.2.1.trans h2.2.1.symm⟩
def saveS (n m : Nat) (V : Nat → Int) (S : PS) : AV := stateLk n m V S.L S.N S.P S.A S.B
theorem intsL_congr {n : Nat} {F G : Nat → Int} (h : ∀ i, i < n → F i = G i) : intsL n F = intsL n G := by
  unfold intsL
  rw [List.map_congr_left fun i hi => by rw [h i (List.mem_range.1 hi)]]
def bothAt (a n m : Nat) (V : Nat → Int) (Q : Nat → List Nat) (S : PS) : List (Nat × AObj) := [(a, .cells [.sl (a + 1) 0 n n 4, .sl (a + 2) 0 m m 3, .int .i64 (S.fr : Nat)]), (a + 1, .cells (cellsB n V S.L S.N S.P)), (a + 2, .cells (endsB m S.A S.B S.C)), (a + 3, .cells [.int .i64 (n : Nat), .sl (a + 4) 0 m m 1, .sl (a + 5) 0 n n 1]), (a + 4, .cells (ofB m Q)), (a + 5, .cells (memI n V))]
/-- A call of the list, from values and lists to others. -/
def stepC (n m : Nat) (x : Cl) (p p' : (Nat → Int) × (Nat → List Nat)) : Prop := TrR n m p.1 p.2 (opC (x.1 % 10)) x.2.1 x.2.2.1 x.2.2.2.1 x.2.2.2.2 p'.1 p'.2
/-- What the first calls have led to. -/
def Tr0 (n m : Nat) (l : List Cl) (T : Nat → (Nat → Int) × (Nat → List Nat)) (i : Nat) : Prop := T 0 = (fun _ => 0, fun _ => []) ∧ ∀ j, j < i → stepC n m (nth (0, 0, 0, 0, false) l j) (T j) (T (j + 1))
theorem Tr0.succ {n m : Nat} {l : List Cl} {T : Nat → (Nat → Int) × (Nat → List Nat)} {i : Nat} {p : (Nat → Int) × (Nat → List Nat)} (h : Tr0 n m l T i) (hs : stepC n m (nth (0, 0, 0, 0, false) l i) (T i) p) : ∃ T', Tr0 n m l T' (i + 1) ∧ T' (i + 1) = p := by
  refine ⟨fun j => if j = i + 1 then p else T j, ⟨by simp only [h.1]; rfl, fun j hj => ?_⟩, if_pos rfl⟩
  dsimp only
  rw [if_neg (by omega)]
  by_cases e : j = i
  · subst e; rw [if_pos rfl]; exact hs
  · rw [if_neg (by omega)]; exact h.2 j (by omega)
end Go.Pol
namespace Go.Proofs.Ytkjimnhmiojcdaa
open Go Go.Am Go.Pol
theorem wkx_Lt {p : Prop} (h : p := by (refine weak_s (by exact oneOf_of rfl) (by exact subH_of rfl) (by intro hs; (repeat' ((try (conv => whnf)); first | with_reducible exact True.intro | with_reducible refine And.intro ?_ ?_ | (with_reducible refine WkX.mk ?_; first | exact wk_undef | exact wk_int (by first | rfl | omega | (dsimp only; omega)) | exact wk_bool rfl | exact wk_ptr rfl (by first | decide | simp | omega) | exact wk_sl rfl (by first | decide | simp | omega) (by first | rfl | omega | simp) (by first | omega | simp) (by first | omega | simp) | exact wk_own rfl (by first | decide | simp | omega) | exact wk_nil0 (by first | rfl | simp) | exact wk_slown rfl (by first | decide | omega | (simp; done)) (by first | omega | (simp; done)) (by first | rfl | omega | (simp; done) | (simp; omega)) | exact wk_plain hs (by (first | assumption | exact plain_int | exact plain_bool | exact plain_undef | exact plain_nils | exact plain_nilp | exact plain_nilf | exact plain_str | with_reducible apply slots_plain | with_reducible apply plain_calls | with_reducible apply plain_stateLk | with_reducible apply plain_callI)) | (with_reducible refine wk_fn ?_ ?_ <;> repeat' (first | with_reducible exact wkl_nil | with_reducible refine wkl_cons ?_ ?_ | exact wk_ptr rfl (by first | decide | simp | omega))) | (with_reducible refine wk_agg ?_; repeat' (first | with_reducible exact wkl_nil | with_reducible refine wkl_cons ?_ ?_ | exact wk_int (by first | rfl | omega | (dsimp only; omega)) | exact wk_bool rfl)) | exact wk_yld rfl (by first | decide | simp | omega))))) (by intro hs; (try dsimp only); (repeat' (first | with_reducible exact wko_nil | refine wko_plain hs (by first | decide | omega | simp) rfl (by first | rfl) (by (first | with_reducible assumption | with_reducible apply cells_plain | with_reducible apply ends_plain | with_reducible apply of_plain _ _ | with_reducible apply memI_plain _ _ | with_reducible apply plain_map (fun _ => plain_int) | with_reducible apply plain_map (fun _ => plain_bool) | ((repeat' (first | exact plain_all0 | refine plain_all2 ?_ ?_ | exact plain_int | first | assumption | exact plain_int | exact plain_bool | exact plain_undef | exact plain_nils | exact plain_nilp | exact plain_nilf | exact plain_str | with_reducible apply slots_plain | with_reducible apply plain_calls | with_reducible apply plain_stateLk | with_reducible apply plain_callI)); done) | ((refine plain_app ?_ ?_) <;> (first | with_reducible assumption | with_reducible apply cells_plain | with_reducible apply ends_plain | with_reducible apply of_plain _ _ | with_reducible apply memI_plain _ _ | with_reducible apply plain_map (fun _ => plain_int) | with_reducible apply plain_map (fun _ => plain_bool) | ((repeat' (first | exact plain_all0 | refine plain_all2 ?_ ?_ | exact plain_int | first | assumption | exact plain_int | exact plain_bool | exact plain_undef | exact plain_nils | exact plain_nilp | exact plain_nilf | exact plain_str | with_reducible apply slots_plain | with_reducible apply plain_calls | with_reducible apply plain_stateLk | with_reducible apply plain_callI)); done))))) ?_ | refine wko_cells (by first | decide | omega | simp) rfl (by repeat' (first | with_reducible exact wkl_nil | with_reducible refine wkl_cons ?_ ?_ | (first | exact wk_undef | exact wk_int (by first | rfl | omega | (dsimp only; omega)) | exact wk_bool rfl | exact wk_ptr rfl (by first | decide | simp | omega) | exact wk_sl rfl (by first | decide | simp | omega) (by first | rfl | omega | simp) (by first | omega | simp) (by first | omega | simp) | exact wk_own rfl (by first | decide | simp | omega) | exact wk_nil0 (by first | rfl | simp) | exact wk_slown rfl (by first | decide | omega | (simp; done)) (by first | omega | (simp; done)) (by first | rfl | omega | (simp; done) | (simp; omega)) | exact wk_plain hs (by (first | assumption | exact plain_int | exact plain_bool | exact plain_undef | exact plain_nils | exact plain_nilp | exact plain_nilf | exact plain_str | with_reducible apply slots_plain | with_reducible apply plain_calls | with_reducible apply plain_stateLk | with_reducible apply plain_callI)) | (with_reducible refine wk_fn ?_ ?_ <;> repeat' (first | with_reducible exact wkl_nil | with_reducible refine wkl_cons ?_ ?_ | exact wk_ptr rfl (by first | decide | simp | omega))) | (with_reducible refine wk_agg ?_; repeat' (first | with_reducible exact wkl_nil | with_reducible refine wkl_cons ?_ ?_ | exact wk_int (by first | rfl | omega | (dsimp only; omega)) | exact wk_bool rfl)) | exact wk_yld rfl (by first | decide | simp | omega)))) ?_ | refine wko_loop (by first | decide | omega | simp) rfl (by ((try subst hF); (try subst hF2); exact wkl_sd (wkf_sget (by (repeat' ((try (conv => whnf)); first | with_reducible exact True.intro | with_reducible refine And.intro ?_ ?_ | (with_reducible refine WkX.mk ?_; first | exact wk_undef | exact wk_int (by first | rfl | omega | (dsimp only; omega)) | exact wk_bool rfl | exact wk_ptr rfl (by first | decide | simp | omega) | exact wk_sl rfl (by first | decide | simp | omega) (by first | rfl | omega | simp) (by first | omega | simp) (by first | omega | simp) | exact wk_own rfl (by first | decide | simp | omega) | exact wk_nil0 (by first | rfl | simp) | exact wk_slown rfl (by first | decide | omega | (simp; done)) (by first | omega | (simp; done)) (by first | rfl | omega | (simp; done) | (simp; omega)) | exact wk_plain hs (by (first | assumption | exact plain_int | exact plain_bool | exact plain_undef | exact plain_nils | exact plain_nilp | exact plain_nilf | exact plain_str | with_reducible apply slots_plain | with_reducible apply plain_calls | with_reducible apply plain_stateLk | with_reducible apply plain_callI)) | (with_reducible refine wk_fn ?_ ?_ <;> repeat' (first | with_reducible exact wkl_nil | with_reducible refine wkl_cons ?_ ?_ | exact wk_ptr rfl (by first | decide | simp | omega))) | (with_reducible refine wk_agg ?_; repeat' (first | with_reducible exact wkl_nil | with_reducible refine wkl_cons ?_ ?_ | exact wk_int (by first | rfl | omega | (dsimp only; omega)) | exact wk_bool rfl)) | exact wk_yld rfl (by first | decide | simp | omega)))))))) ?_ | exact wko_nil))))) : p := h
theorem wx_Lt {p q : Prop} (hq : q) (h : HidP q → p := by (intro hQz; ((repeat' ((try (conv => whnf)); first | (with_reducible first | refine run_cons ?_ | refine runq_cons ?_ | refine code_seq ?_ | refine code_reg ?_ | refine code_cond ?_ | refine run_nil ?_ | refine runq_nil ?_ | refine rund_op rfl ?_ | refine rund_nil ?_ | refine code_block ?_ | refine code_skip ?_ | refine code_exit ?_ | refine code_ret ?_ | refine code_range ?_ | refine rund_fast (by decide +kernel) ?_ | refine rund_slow (by decide +kernel) ?_ | refine br_tt ?_ | refine br_ff ?_ | refine br_n ?_ | refine br_and ?_ | refine br_or ?_ | refine br_t (by assumption) ?_ | refine br_f (by assumption) ?_ | refine eq_i64 (by omega) ?_ | refine el_tn ?_) | ((with_reducible refine br_dt ?_ ?_); focus omega) | ((with_reducible refine br_df ?_ ?_); focus omega) | ((with_reducible apply br_dq hQz) <;> (try intro hsp hQz)) | ((with_reducible refine ck_x ?_ ?_); focus (first | omega | rfl | assumption | decide | (simp only [List.length_map, List.length_cons, List.length_nil]; omega))) | (with_reducible first | refine eq_tn ?_ | refine eq_tn1 ?_ | refine eq_tn2 ?_ | refine eq_m1 ?_ | refine eq_m2 ?_ | refine eq_zm ?_ | refine eq_z ?_ | refine len_map ?_ | refine len_sl ?_ | refine len_nils ?_ | refine len_own' ?_ | refine len_isl ?_ | refine eq_u8 (by omega) ?_ | refine eq_u16 (by omega) ?_) | refine el_map (0, 0, 0, 0, false) call_len hil ?_ | (with_reducible first | refine eq_rfl ?_ | refine ChkX.mk (by kernel_rfl) ?_ | refine code_q rfl ?_ | refine code_d (by decide +kernel) ?_ | refine end_go rfl ?_) | refine cx_new hn (by omega) hm hm2 ?_ | refine cx_rnew hn (by omega) hm hm2 ?_ | refine cx_both hdo rfl rfl rfl rfl rfl rfl (by decide) ha plain_bool ?_ | refine len_map ?_ | refine len_isl ?_ | refine el_of rfl rfl ?_ | refine del_own ?_ | refine del_own' rfl ?_ | refine as_go rfl ?_ | refine rd_go rfl ?_ | refine rg_end rfl ?_ | refine flat_ownX ?_ | refine EqLX.mk ?_ | ((with_reducible apply br_bq hQz) <;> (try intro hsp hQz)) | exact hQz.out)) <;> (try (conv => whnf))))) : p := h ⟨hq⟩
section
variable {n m : Nat} {V : Nat → Int} {Q : Nat → List Nat} {S : PS}
theorem p_save (h : GoodP n m V Q S) (hm : 0 < m) : LocP 18 [] n m (poolS n m V S) (saveS n m V S) (poolS n m V S) := l_save h.n_pos h.n_le hm h.m_le
end
set_option maxHeartbeats 1600000 in
theorem l_made (n m : Nat) (l : List Cl) (hn : 1 ≤ n) (hn2 : n ≤ 2000) (hm : 1 ≤ m) (hm2 : m ≤ 64) (hl : l.length ≤ 100) (hx : ∀ x ∈ l, x.1 < 256) :
    LocC Try.prog G0 5 [.int .i64 (n : Nat), .int .i64 (m : Nat), callsA l] [] 0 fun r h => ∃ V Q S, (GoodP n m V Q S ∧ ∃ T, Tr0 n m l T l.length ∧ T l.length = (V, Q)) ∧ r = .tup [.ptr 0 0, .ptr 3 0] ∧ h = ⟨bothB n m V Q S, 6⟩ := by
  refine loc_x hmix b5 rfl ?_
  unfold c5 callsA
  have h0 := good_0 (n := n) (m := m) (by omega) (by omega) hm2
  (refine wx_Lt ?_; repeat' (first | with_reducible refine And.intro ?_ ?_ | intro hsp))
  (refine loop_x [2] (fun (q : Nat × (Nat → Int) × (Nat → List Nat) × PS) => [(8, .ptr 0 0), (10, .ptr 3 0), (12, .int .i64 (q.1 : Nat))]) (fun (q : Nat × (Nat → Int) × (Nat → List Nat) × PS) => ⟨bothB n m q.2.1 q.2.2.1 q.2.2.2, 6⟩) (fun (q : Nat × (Nat → Int) × (Nat → List Nat) × PS) => q.1 ≤ l.length ∧ (GoodP n m q.2.1 q.2.2.1 q.2.2.2 ∧ ∃ T, Tr0 n m l T q.1 ∧ T q.1 = (q.2.1, q.2.2.1))) (fun (q : Nat × (Nat → Int) × (Nat → List Nat) × PS) => l.length - q.1) ((0, (fun _ => 0), (fun _ => []), S0 n m)) [(3, 5), (4, 3), (5, 4)] rfl (fun _ => by first | exact Nat.zero_le _ | (dsimp only; omega)) ?_ (by ((try (conv => whnf)); exact wkx_Lt)) ?_)
  · exact ⟨Nat.zero_le _, h0, fun _ => (fun _ => 0, fun _ => []), ⟨rfl, fun j hj => absurd hj (Nat.not_lt_zero j)⟩, rfl⟩
  rintro ⟨i, V, Q, S⟩ ⟨hi, hg, T, hT, hTi⟩
  dsimp only at hi hg hT hTi ⊢
  by_cases hil : i < l.length
  · obtain ⟨V', Q', S', ⟨hg', hst⟩, hdo⟩ := l_do hg (nth (0, 0, 0, 0, false) l i) (hx _ (nth_mem hil))
    have hst' : stepC n m (nth (0, 0, 0, 0, false) l i) (T i) (V', Q') := by rw [hTi]; exact hst
    clear hst
    have hT' := hT.succ hst'
    clear hst'
    have ha : RnL (enter [0, 1, 2, 3, 4, 5]) [.ptr 0 0, .ptr 3 0, .agg (callA (nth (0, 0, 0, 0, false) l i))] [.ptr 0 0, .ptr 3 0, .agg (callA (nth (0, 0, 0, 0, false) l i))] := ⟨rn_ptr (show enter [0, 1, 2, 3, 4, 5] 0 0 from rfl), rn_ptr (show enter [0, 1, 2, 3, 4, 5] 3 3 from rfl), rn_plain (plain_callA _), trivial⟩
    (refine wx_Lt ?_; repeat' (first | with_reducible refine And.intro ?_ ?_ | intro hsp))
    exact next_x (i + 1, V', Q', S') [] ⟨by dsimp only; omega, hg', hT'⟩ (by first | omega | (dsimp only; omega)) rfl (by exact wkx_Lt)
  · obtain rfl : i = l.length := by omega
    (refine wx_Lt ?_; repeat' (first | with_reducible refine And.intro ?_ ?_ | intro hsp))
    exact end_both (N0 := 0) (wk_tup (wkl_cons (wk_ptr (i := 0) rfl (show 0 < 6 by decide)) (wkl_cons (wk_ptr (i := 3) rfl (show 3 < 6 by decide)) wkl_nil))) rfl rfl rfl rfl rfl rfl ⟨V, Q, S, ⟨hg, T, hT, hTi⟩, rfl, rfl⟩
theorem cx_made {n m nx : Nat} {cl : List Cl} {l : List (Nat × AObj)} {K : AV → Hp → Prop} (hn : 1 ≤ n) (hn2 : n ≤ 2000) (hm : 1 ≤ m) (hm2 : m ≤ 64) (hl : cl.length ≤ 100) (hx : ∀ x ∈ cl, x.1 < 256)
    (hk : ∀ V Q S, GoodP n m V Q S → ∀ T, Tr0 n m cl T cl.length → T cl.length = (V, Q) → K (.tup [.ptr nx 0, .ptr (nx + 3) 0]) ⟨bothAt nx n m V Q S ++ l, nx + 6⟩) : CallX Try.prog G0 (.fn 5 [] []) [.int .i64 (n : Nat), .int .i64 (m : Nat), callsA cl] ⟨l, nx⟩ K := by
  refine ⟨fun c u vs hR hG hmm hu hargs => ?_⟩
  refine callV_loc (h := ⟨l, nx⟩) (K := fun v h' => ∃ hx, Hq h' hx ∧ K v hx) [] (l_made n m cl hn hn2 hm hm2 hl hx) plainG rfl .nil (rnl_plain (by simp [plain_int, plain_calls])) (by simp) ?_ c u vs hR hG hmm hu hargs
  rintro x h1 ⟨V, Q, S, ⟨hg, T, hT, hTi⟩, rfl, rfl⟩
  have k0 : back [] nx 0 nx := rfl
  have k1 : back [] nx 1 (nx + 1) := rfl
  have k2 : back [] nx 2 (nx + 2) := rfl
  have k3 : back [] nx 3 (nx + 3) := rfl
  have k4 : back [] nx 4 (nx + 4) := rfl
  have k5 : back [] nx 5 (nx + 5) := rfl
  refine ⟨.tup [.ptr nx 0, .ptr (nx + 3) 0], bothAt nx n m V Q S, rn_tup ⟨rn_ptr k0, rn_ptr k3, trivial⟩,
    .cons k0 ⟨rn_sl k1, rn_sl k2, rn_plain plain_int, trivial⟩ (.cons k1 (rnl_plain cells_plain) (.cons k2 (rnl_plain ends_plain) (.cons k3 ⟨rn_plain plain_int, rn_sl k4, rn_sl k5, trivial⟩ (.cons k4 (rnl_plain (of_plain _ _)) (.cons k5 (rnl_plain (memI_plain _ _)) .nil))))), ⟨bothAt nx n m V Q S ++ l, nx + 6⟩, ⟨?_, rfl⟩, hk V Q S hg T hT hTi⟩
  have e : l.filter (fun q => !([] : List Nat).contains q.1) = l := List.filter_eq_self.2 fun _ _ => rfl
  rw [e]
  refine lk_app2 fun i o o' h1 h2 => ?_
  have hlt : i < nx := (hmm.U i).1 (hR.used i o (by rw [hmm.at_]; exact h1))
  simp only [bothAt, lk] at h2
  repeat' (split at h2)
  all_goals first | omega | cases h2
end Go.Proofs.Ytkjimnhmiojcdaa
