/-
  The document's lists of slots: their memory; Find, free, end.
  The document's lists of slots: free, put, cut.
  The calls of the document's lists of slots.
  The document's End and Step; a call of both.
-/
import Derived.Test.YtkjimnhmiojcdaaAmWt
import Derived.Test.YtkjimnhmiojcdaaLiB
set_option linter.unusedSimpArgs false
set_option linter.unusedVariables false
namespace Go.Pol
open Go.Am
def slotA (s : Nat) : List AV := [.int .i64 (s : Nat)]
def slotsA (l : List Nat) : AV := .isl (l.map slotA)
def ofB (m : Nat) (Q : Nat → List Nat) : List AV := (List.range m).map fun i => slotsA (Q i)
theorem slot_len (s : Nat) : (slotA s).length = 1 := rfl
theorem slot_plain (s : Nat) : ∀ x ∈ slotA s, Plain x := fun x hx => by obtain rfl := List.mem_singleton.1 hx; exact plain_int
theorem slots_plain {l : List Nat} : Plain (slotsA l) := plain_isl fun e he => by
  obtain ⟨s, _, rfl⟩ := List.mem_map.1 he; exact slot_plain s
theorem of_len (m : Nat) (Q : Nat → List Nat) : (ofB m Q).length = m := by simp [ofB]
theorem of_get {m : Nat} {Q : Nat → List Nat} {i : Nat} (h : i < m) : (ofB m Q)[i]? = some (slotsA (Q i)) := by simp [ofB, h]
theorem of_plain (m : Nat) (Q : Nat → List Nat) : ∀ x ∈ ofB m Q, Plain x := fun x hx => by obtain ⟨p, _, rfl⟩ := List.mem_map.1 hx; exact slots_plain
def refB (n m : Nat) (V : Nat → Int) (Q : Nat → List Nat) : List (Nat × AObj) := [(0, .cells [.int .i64 (n : Nat), .sl 1 0 m m 1, .sl 2 0 n n 1]), (1, .cells (ofB m Q)), (2, .cells (memI n V))]
end Go.Pol
namespace Go.Proofs.Ytkjimnhmiojcdaa
open Go Go.Am Go.Pol
theorem wkx_Lg {p : Prop} (h : p := by (refine weak_s (by exact oneOf_of rfl) (by exact subH_of rfl) (by intro hs; (repeat' ((try (conv => whnf)); first | with_reducible exact True.intro | with_reducible refine And.intro ?_ ?_ | (with_reducible refine WkX.mk ?_; first | exact wk_int (by first | rfl | omega | (dsimp only; omega)) | exact wk_bool rfl | exact wk_ptr rfl (by first | decide | omega | simp) | exact wk_sl rfl (by first | decide | omega | simp) (by first | rfl | omega | simp) (by first | omega | simp) (by first | omega | simp) | exact wk_plain hs (by (first | assumption | exact plain_int | exact plain_bool | exact plain_undef | exact plain_nils | exact plain_nilp | exact plain_nilf | exact plain_str | with_reducible apply slots_plain)))))) (by intro hs; (try dsimp only); (repeat' (first | with_reducible exact wko_nil | refine wko_plain hs (by first | decide | omega | simp) rfl (by first | rfl) (by (first | with_reducible assumption | with_reducible apply of_plain _ _ | with_reducible apply memI_plain _ _ | with_reducible apply plain_map (fun _ => plain_int) | with_reducible apply plain_map (fun _ => plain_bool) | ((repeat' (first | exact plain_all0 | refine plain_all2 ?_ ?_ | exact plain_int | first | assumption | exact plain_int | exact plain_bool | exact plain_undef | exact plain_nils | exact plain_nilp | exact plain_nilf | exact plain_str | with_reducible apply slots_plain)); done) | ((refine plain_app ?_ ?_) <;> (first | with_reducible assumption | with_reducible apply of_plain _ _ | with_reducible apply memI_plain _ _ | with_reducible apply plain_map (fun _ => plain_int) | with_reducible apply plain_map (fun _ => plain_bool) | ((repeat' (first | exact plain_all0 | refine plain_all2 ?_ ?_ | exact plain_int | first | assumption | exact plain_int | exact plain_bool | exact plain_undef | exact plain_nils | exact plain_nilp | exact plain_nilf | exact plain_str | with_reducible apply slots_plain)); done))))) ?_ | refine wko_cells (by first | decide | omega | simp) rfl (by repeat' (first | with_reducible exact wkl_nil | with_reducible refine wkl_cons ?_ ?_ | (first | exact wk_int (by first | rfl | omega | (dsimp only; omega)) | exact wk_bool rfl | exact wk_ptr rfl (by first | decide | omega | simp) | exact wk_sl rfl (by first | decide | omega | simp) (by first | rfl | omega | simp) (by first | omega | simp) (by first | omega | simp) | exact wk_plain hs (by (first | assumption | exact plain_int | exact plain_bool | exact plain_undef | exact plain_nils | exact plain_nilp | exact plain_nilf | exact plain_str | with_reducible apply slots_plain))))) ?_ | exact wko_nil))))) : p := h
theorem wx_Lg {p q : Prop} (hq : q) (h : HidP q → p := by (intro hQz; ((repeat' ((try (conv => whnf)); first | (with_reducible first | refine run_cons ?_ | refine runq_cons ?_ | refine code_seq ?_ | refine code_reg ?_ | refine code_cond ?_ | refine run_nil ?_ | refine runq_nil ?_ | refine rund_op rfl ?_ | refine rund_nil ?_ | refine code_block ?_ | refine code_skip ?_ | refine code_exit ?_ | refine code_ret ?_ | refine code_range ?_ | refine rund_fast (by decide +kernel) ?_ | refine rund_slow (by decide +kernel) ?_ | refine br_tt ?_ | refine br_ff ?_ | refine br_n ?_ | refine br_and ?_ | refine br_or ?_ | refine br_t (by assumption) ?_ | refine br_f (by assumption) ?_ | refine eq_i64 (by omega) ?_ | refine el_tn ?_) | ((with_reducible refine br_dt ?_ ?_); focus omega) | ((with_reducible refine br_df ?_ ?_); focus omega) | ((with_reducible apply br_dq hQz) <;> (try intro hsp hQz)) | ((with_reducible refine ck_x ?_ ?_); focus (first | omega | rfl | assumption | decide | (simp only [List.length_map, List.length_cons, List.length_nil]; omega))) | (with_reducible first | refine eq_tn ?_ | refine eq_tn1 ?_ | refine eq_tn2 ?_ | refine eq_m1 ?_ | refine eq_m2 ?_ | refine eq_zm ?_ | refine eq_z ?_ | refine len_map ?_ | refine len_sl ?_ | refine len_nils ?_ | refine len_own' ?_ | refine len_isl ?_ | refine eq_u8 (by omega) ?_ | refine eq_u16 (by omega) ?_) | refine nthK_of (g) ?_ | refine el_map 0 slot_len hll ?_ | (with_reducible first | refine eq_rfl ?_ | refine ChkX.mk (by kernel_rfl) ?_ | refine code_q rfl ?_ | refine code_d (by decide +kernel) ?_ | refine end_go rfl ?_) | refine len_map ?_ | refine len_isl ?_ | refine el_of rfl rfl ?_ | refine del_own ?_ | refine del_own' rfl ?_ | refine as_go rfl ?_ | refine rd_go rfl ?_ | refine rg_end rfl ?_ | refine flat_ownX ?_ | refine EqLX.mk ?_ | ((with_reducible apply br_bq hQz) <;> (try intro hsp hQz)) | exact hQz.out)) <;> (try (conv => whnf))))) : p := h ⟨hq⟩
section
variable {n m : Nat} {V : Nat → Int} {Q : Nat → List Nat}
/-- A call on the document's lists: over their three blocks alone. -/
structure LocR (f : Nat) (avs : List AV) (n m : Nat) (l0 : List (Nat × AObj)) (r : AV) (lr : List (Nat × AObj)) : Prop where
  out : LocC Try.prog G0 f (.ptr 0 0 :: avs) l0 3 fun x h1 => x = r ∧ h1 = ⟨lr, 3⟩
theorem end_ref {top : Bool} {h : Hp} {x r : AV} {cs : List AV} (hr : WkV Try.prog (rn []) h ⟨refB n m V Q, 3⟩ x r) (h0 : lk h.l 0 = some (.cells [.int .i64 (n : Nat), .sl 1 0 m m 1, .sl 2 0 n n 1])) (h1 : lk h.l 1 = some (.cells cs)) (h2 : lk h.l 2 = some (.cells (memI n V)))
    (hc : SubH (rn []) h ⟨refB n m V Q, 3⟩ → WkL Try.prog (rn []) h ⟨refB n m V Q, 3⟩ cs (ofB m Q)) :
    EndX top Try.prog 3 h x (fun r' h' => r' = r ∧ h' = ⟨refB n m V Q, 3⟩) := by
  have hs : SubH (rn []) h ⟨refB n m V Q, 3⟩ := fun i o hi => by
    simp only [refB, lk] at hi
    show ∃ o', lk h.l i = some o'
    split at hi
    · rename_i e; subst e; exact ⟨_, h0⟩
    · split at hi
      · rename_i e; subst e; exact ⟨_, h1⟩
      · split at hi
        · rename_i e; subst e; exact ⟨_, h2⟩
        · cases hi
  exact end_loc [] rfl (Nat.le_refl _) (oneOf_of rfl) hr (wko_cells (show 0 < 3 by decide) h0 (wkl_cons (wk_int rfl) (wkl_cons (wk_sl rfl (show 1 < 3 by decide) rfl (Nat.le_refl _) (Nat.le_refl _)) (wkl_cons (wk_sl rfl (show 2 < 3 by decide) rfl (Nat.le_refl _) (Nat.le_refl _)) wkl_nil)))
    (wko_cells (show 1 < 3 by decide) h1 (hc hs) (wko_plain hs (show 2 < 3 by decide) h2 rfl (memI_plain _ _) wko_nil))) ⟨rfl, rfl⟩
theorem wkl_of {σ : Nat → Nat} {h h' : Hp} (hs : SubH σ h h') : WkL Try.prog σ h h' (ofB m Q) (ofB m Q) := wkl_plain hs (of_plain _ _)
theorem cx_ref {f : Nat} {avs : List AV} {V' : Nat → Int} {Q' : Nat → List Nat} {a b c nx : Nat} {l : List (Nat × AObj)} {r : AV} {K : AV → Hp → Prop} (hc : LocR f avs n m (refB n m V Q) r (refB n m V' Q'))
    (hl0 : lk l a = some (.cells [.int .i64 (n : Nat), .sl b 0 m m 1, .sl c 0 n n 1])) (hl1 : lk l b = some (.cells (ofB m Q))) (hl2 : lk l c = some (.cells (memI n V))) (hlt : a < nx ∧ b < nx ∧ c < nx)
    (ha : ∀ x ∈ avs, Plain x) (hr : Plain r) (hd : nodB [a, b, c] = true)
    (hk : filtK [a, b, c] l fun l2 => K r ⟨[(a, .cells [.int .i64 (n : Nat), .sl b 0 m m 1, .sl c 0 n n 1]), (b, .cells (ofB m Q')), (c, .cells (memI n V'))] ++ l2, nx⟩) : CallX Try.prog G0 (.fn f [] []) (.ptr a 0 :: avs) ⟨l, nx⟩ K := by
  have e0 : enter [a, b, c] a 0 := rfl
  have e1 : enter [a, b, c] b 1 := rfl
  have e2 : enter [a, b, c] c 2 := rfl
  have k0 : back [a, b, c] nx 0 a := rfl
  have k1 : back [a, b, c] nx 1 b := rfl
  have k2 : back [a, b, c] nx 2 c := rfl
  refine cx_loc (l1 := [(a, .cells [.int .i64 (n : Nat), .sl b 0 m m 1, .sl c 0 n n 1]), (b, .cells (ofB m Q')), (c, .cells (memI n V'))]) [a, b, c] hc.out plainG hd
    (.cons e0 hl0 ⟨rn_plain plain_int, rn_sl e1, rn_sl e2, trivial⟩ (.cons e1 hl1 (rnl_plain (of_plain _ _)) (.cons e2 hl2 (rnl_plain (memI_plain _ _)) .nil)))
    ?_ (by intro x hx; simp only [List.mem_cons, List.not_mem_nil, or_false] at hx; omega) (rn_plain hr)
    (.cons k0 ⟨rn_plain plain_int, rn_sl k1, rn_sl k2, trivial⟩ (.cons k1 (rnl_plain (of_plain _ _)) (.cons k2 (rnl_plain (memI_plain _ _)) .nil))) hk
  simp only [List.nil_append, List.append_nil]
  exact ⟨rn_ptr e0, rnl_plain ha⟩
set_option maxHeartbeats 1600000 in
theorem r_find (s : Int) (i k : Nat) (hm : m ≤ 64) (hQl : ∀ j, (Q j).length ≤ 8000) (hi : i < m) (hk : k < (Q i).length) (hs : s = (nth 0 (Q i) k : Nat)) (hno : ∀ j l, j < i → l < (Q j).length → s ≠ (nth 0 (Q j) l : Nat)) (hno2 : ∀ l, l < k → s ≠ (nth 0 (Q i) l : Nat)) :
    LocR 71 [.int .i64 s] n m (refB n m V Q) (.tup [.int .i64 (i : Nat), .int .i64 (k : Nat)]) (refB n m V Q) := by
  refine LocR.mk (loc_x hmix b71 rfl ?_)
  unfold c71
  (refine wx_Lg ?_; repeat' (first | with_reducible refine And.intro ?_ ?_ | intro hsp))
  (refine loop_x [0, 1] (fun (j : Nat) => [(6, .int .i64 (j : Nat))]) (fun (j : Nat) => ⟨refB n m V Q, 3⟩) (fun (j : Nat) => j ≤ i) (fun (j : Nat) => i - j) (0) [] rfl (fun _ => by first | exact Nat.zero_le _ | (dsimp only; omega)) ?_ (by ((try (conv => whnf)); exact wkx_Lg)) ?_)
  · exact Nat.zero_le _
  intro j hj
  have hjm : j < m := by omega
  have hqj := hQl j
  have g := of_get (Q := Q) hjm
  unfold slotsA at g
  by_cases hji : j < i
  · (refine wx_Lg ?_; repeat' (first | with_reducible refine And.intro ?_ ?_ | intro hsp))
    (refine loop_x [0, 1] (fun (l : Nat) => [(6, .int .i64 (j : Nat)), (7, .int .i64 (l : Nat))]) (fun (l : Nat) => ⟨refB n m V Q, 3⟩) (fun (l : Nat) => l ≤ (Q j).length) (fun (l : Nat) => (Q j).length - l) (0) [] rfl (fun _ => by first | exact Nat.zero_le _ | (dsimp only; omega)) ?_ (by ((try (conv => whnf)); exact wkx_Lg)) ?_)
    · exact Nat.zero_le _
    intro l hl
    by_cases hll : l < (Q j).length
    · have hne := hno j l hji hll
      (refine wx_Lg ?_; repeat' (first | with_reducible refine And.intro ?_ ?_ | intro hsp))
      exact next_x (l + 1) [] (by (try dsimp only); omega) (by first | omega | (dsimp only; omega)) rfl (by exact wkx_Lg)
    · (refine wx_Lg ?_; repeat' (first | with_reducible refine And.intro ?_ ?_ | intro hsp))
      exact next_x (j + 1) [] (by (try dsimp only); omega) (by first | omega | (dsimp only; omega)) rfl (by exact wkx_Lg)
  · obtain rfl : j = i := by omega
    (refine wx_Lg ?_; repeat' (first | with_reducible refine And.intro ?_ ?_ | intro hsp))
    (refine loop_x [0, 1] (fun (l : Nat) => [(6, .int .i64 (j : Nat)), (7, .int .i64 (l : Nat))]) (fun (l : Nat) => ⟨refB n m V Q, 3⟩) (fun (l : Nat) => l ≤ k) (fun (l : Nat) => k - l) (0) [] rfl (fun _ => by first | exact Nat.zero_le _ | (dsimp only; omega)) ?_ (by ((try (conv => whnf)); exact wkx_Lg)) ?_)
    · exact Nat.zero_le _
    intro l hl
    have hll : l < (Q j).length := by omega
    by_cases hlk : l < k
    · have hne := hno2 l hlk
      (refine wx_Lg ?_; repeat' (first | with_reducible refine And.intro ?_ ?_ | intro hsp))
      exact next_x (l + 1) [] (by (try dsimp only); omega) (by first | omega | (dsimp only; omega)) rfl (by exact wkx_Lg)
    · obtain rfl : l = k := by omega
      (refine wx_Lg ?_; repeat' (first | with_reducible refine And.intro ?_ ?_ | intro hsp))
      exact end_ref (wk_ints rfl rfl) rfl rfl rfl wkl_of
set_option maxHeartbeats 1600000 in
theorem r_find_no (s : Int) (hm : m ≤ 64) (hQl : ∀ j, (Q j).length ≤ 8000) (hno : ∀ j l, j < m → l < (Q j).length → s ≠ (nth 0 (Q j) l : Nat)) :
    LocR 71 [.int .i64 s] n m (refB n m V Q) (.tup [.int .i64 (-1), .int .i64 (-1)]) (refB n m V Q) := by
  refine LocR.mk (loc_x hmix b71 rfl ?_)
  unfold c71
  (refine wx_Lg ?_; repeat' (first | with_reducible refine And.intro ?_ ?_ | intro hsp))
  (refine loop_x [0, 1] (fun (j : Nat) => [(6, .int .i64 (j : Nat))]) (fun (j : Nat) => ⟨refB n m V Q, 3⟩) (fun (j : Nat) => j ≤ m) (fun (j : Nat) => m - j) (0) [] rfl (fun _ => by first | exact Nat.zero_le _ | (dsimp only; omega)) ?_ (by ((try (conv => whnf)); exact wkx_Lg)) ?_)
  · exact Nat.zero_le _
  intro j hj
  have hqj := hQl j
  by_cases hjm : j < m
  · have g := of_get (Q := Q) hjm
    unfold slotsA at g
    (refine wx_Lg ?_; repeat' (first | with_reducible refine And.intro ?_ ?_ | intro hsp))
    (refine loop_x [0, 1] (fun (l : Nat) => [(6, .int .i64 (j : Nat)), (7, .int .i64 (l : Nat))]) (fun (l : Nat) => ⟨refB n m V Q, 3⟩) (fun (l : Nat) => l ≤ (Q j).length) (fun (l : Nat) => (Q j).length - l) (0) [] rfl (fun _ => by first | exact Nat.zero_le _ | (dsimp only; omega)) ?_ (by ((try (conv => whnf)); exact wkx_Lg)) ?_)
    · exact Nat.zero_le _
    intro l hl
    by_cases hll : l < (Q j).length
    · have hne := hno j l hjm hll
      (refine wx_Lg ?_; repeat' (first | with_reducible refine And.intro ?_ ?_ | intro hsp))
      exact next_x (l + 1) [] (by (try dsimp only); omega) (by first | omega | (dsimp only; omega)) rfl (by exact wkx_Lg)
    · (refine wx_Lg ?_; repeat' (first | with_reducible refine And.intro ?_ ?_ | intro hsp))
      exact next_x (j + 1) [] (by (try dsimp only); omega) (by first | omega | (dsimp only; omega)) rfl (by exact wkx_Lg)
  · (refine wx_Lg ?_; repeat' (first | with_reducible refine And.intro ?_ ?_ | intro hsp))
    exact end_ref (wk_ints rfl rfl) rfl rfl rfl wkl_of
theorem r_end (i : Nat) (b : Bool) (hi : i < m) : LocR 75 [.int .i64 (i : Nat), .bool b] n m (refB n m V Q) (.int .i64 (if b = true then 0 else ((Q i).length : Nat))) (refB n m V Q) := by
  refine LocR.mk (loc_x hmix b75 rfl ?_)
  unfold c75
  have g := of_get (Q := Q) hi
  unfold slotsA at g
  cases b
  · (refine wx_Lg ?_; repeat' (first | with_reducible refine And.intro ?_ ?_ | intro hsp))
    exact end_ref (wk_int (by simp)) rfl rfl rfl wkl_of
  · (refine wx_Lg ?_; repeat' (first | with_reducible refine And.intro ?_ ?_ | intro hsp))
    exact end_ref (wk_int (by simp)) rfl rfl rfl wkl_of
end
end Go.Proofs.Ytkjimnhmiojcdaa
namespace Go.Am
section
variable {P : Program} {l : List (Nat × AObj)} {nx sz bytes d n m : Nat} {x : AV} {cs src : List AV} {rd : List Nat} {k : AV → Up → List Nat → Prop}
theorem app_0 (hs : srcV (lk l) sz x = some ([], 0, rd)) (hd : lk l d = some (.cells cs)) (hc : cs.length = n * sz) (hk : k (.sl d 0 n n sz) [(d, some (.cells cs))] (d :: rd)) : AppX l nx sz bytes (.sl d 0 n n sz) x k := by
  have e := appV_in (nx := nx) (bytes := bytes) (off := 0) (cp := n) (len := n) hs hd (Nat.le_refl _) (by rw [Nat.add_zero]; omega)
  rw [Nat.add_zero, show over cs (0 + n * sz) [] = cs from rfl] at e
  exact app_some e hk
theorem app_m (hs : srcV (lk l) sz x = some (src, m, rd)) (hd : lk l d = some (.cells cs)) (hc : cs.length = n * sz) (h0 : 0 < m) (hb : (n + m) * bytes ≤ 140737488355328 ∧ n + m ≤ 1000000000000) (hk : k (.sl nx 0 (n + m) (n + m) sz) [(d, none), (nx, some (.cells (cs ++ src)))] (d :: rd)) : AppX l nx sz bytes (.sl d 0 n n sz) x k := app_some (appV_sl hs hd hc h0 hb) hk
theorem wkl_get {σ : Nat → Nat} {h h' : Hp} : ∀ {xs ys : List AV}, xs.length = ys.length → (∀ (j : Nat) x y, xs[j]? = some x → ys[j]? = some y → WkV P σ h h' x y) → WkL P σ h h' xs ys
  | [], [], _, _ => trivial
  | x :: xs, y :: ys, he, hw => ⟨hw 0 x y rfl rfl, wkl_get (by simpa using he) fun j x' y' hx hy => hw (j + 1) x' y' hx hy⟩
  | [], _ :: _, he, _ => by simp at he
  | _ :: _, [], he, _ => by simp at he
end
end Go.Am
namespace Go.Proofs.Ytkjimnhmiojcdaa
open Go Go.Am Go.Pol
theorem wx_Lh {p q : Prop} (hq : q) (h : HidP q → p := by (intro hQz; ((repeat' ((try (conv => whnf)); first | (with_reducible first | refine run_cons ?_ | refine runq_cons ?_ | refine code_seq ?_ | refine code_reg ?_ | refine code_cond ?_ | refine run_nil ?_ | refine runq_nil ?_ | refine rund_op rfl ?_ | refine rund_nil ?_ | refine code_block ?_ | refine code_skip ?_ | refine code_exit ?_ | refine code_ret ?_ | refine code_range ?_ | refine rund_fast (by decide +kernel) ?_ | refine rund_slow (by decide +kernel) ?_ | refine br_tt ?_ | refine br_ff ?_ | refine br_n ?_ | refine br_and ?_ | refine br_or ?_ | refine br_t (by assumption) ?_ | refine br_f (by assumption) ?_ | refine eq_i64 (by omega) ?_ | refine el_tn ?_) | ((with_reducible refine br_dt ?_ ?_); focus omega) | ((with_reducible refine br_df ?_ ?_); focus omega) | ((with_reducible apply br_dq hQz) <;> (try intro hsp hQz)) | ((with_reducible refine ck_x ?_ ?_); focus (first | omega | rfl | assumption | decide | (simp only [List.length_map, List.length_cons, List.length_nil]; omega) | exact hw | (exact ⟨Nat.zero_le _, by simp, Nat.le_refl _, .inl rfl⟩) | (exact ⟨by simp, by simp, Nat.le_refl _, .inr (by first | (simp [slotA]; done) | fail)⟩) | (simp [of_len]; omega))) | refine eq_of (hw) ?_ | (with_reducible first | refine eq_tn ?_ | refine eq_tn1 ?_ | refine eq_tn2 ?_ | refine eq_m1 ?_ | refine eq_m2 ?_ | refine eq_zm ?_ | refine eq_z ?_ | refine len_map ?_ | refine len_sl ?_ | refine len_nils ?_ | refine len_own' ?_ | refine len_isl ?_ | refine eq_u8 (by omega) ?_ | refine eq_u16 (by omega) ?_) | refine nthK_of (g) ?_ | refine set1K_of (by rw [of_len]; omega) rfl ?_ | refine app_0 rfl rfl (by first | (simp [flat_len slot_len]; done) | fail) ?_ | refine app_m (src_of rfl (by first | (simp; done) | fail)) rfl (by first | (simp [flat_len slot_len]; done) | fail) (by first | decide | omega) ⟨by first | decide | omega, by first | decide | omega⟩ ?_ | refine app_0 (src_isl [] (by first | (rw [← List.map_take, ← List.map_drop]; congr 1; simp; done) | exact dr_all.trans (congrArg _ List.drop_left) | exact dr_all.trans (congrArg _ drop_mid) | fail)) rfl (by first | (simp [flat_len slot_len]; done) | fail) ?_ | refine app_m (src_isl Y (by first | (rw [← List.map_take, ← List.map_drop]; congr 1; simp; done) | exact dr_all.trans (congrArg _ List.drop_left) | exact dr_all.trans (congrArg _ drop_mid) | fail)) rfl (by first | (simp [flat_len slot_len]; done) | fail) (by first | decide | omega) ⟨by first | decide | omega, by first | decide | omega⟩ ?_ | refine app_m (src_isl X (by first | (rw [← List.map_take, ← List.map_drop]; congr 1; simp; done) | exact dr_all.trans (congrArg _ List.drop_left) | exact dr_all.trans (congrArg _ drop_mid) | fail)) rfl (by first | (simp [flat_len slot_len]; done) | fail) (by first | decide | omega) ⟨by first | decide | omega, by first | decide | omega⟩ ?_ | (with_reducible first | refine eq_rfl ?_ | refine ChkX.mk (by kernel_rfl) ?_ | refine code_q rfl ?_ | refine code_d (by decide +kernel) ?_ | refine end_go rfl ?_) | refine len_map ?_ | refine len_isl ?_ | refine el_of rfl rfl ?_ | refine del_own ?_ | refine del_own' rfl ?_ | refine as_go rfl ?_ | refine rd_go rfl ?_ | refine rg_end rfl ?_ | refine flat_ownX ?_ | refine EqLX.mk ?_ | ((with_reducible apply br_bq hQz) <;> (try intro hsp hQz)) | exact hQz.out)) <;> (try (conv => whnf))))) : p := h ⟨hq⟩
theorem src_isl {at_ : At} {els : List (List AV)} (l : List Nat) (e : els = l.map slotA) : srcV at_ 1 (.isl els) = some (flat slotA l, l.length, []) := by subst e; exact src_map slot_len
theorem drop_mid {s : Nat} {X Y : List Nat} : List.drop (X.length + 1) (X ++ s :: Y) = Y := by
  rw [show X ++ s :: Y = (X ++ [s]) ++ Y by simp, List.drop_append_of_le_length (by simp), List.drop_of_length_le (by simp)]; rfl
theorem dr_all {L : List Nat} {k : Nat} : List.drop k (List.take (List.map slotA L).length (List.map slotA L)) = (L.drop k).map slotA := by rw [List.take_length, List.map_drop]
section
variable {n m : Nat} {V : Nat → Int} {Q : Nat → List Nat}
theorem wkl_frz1 {σ : Nat → Nat} {h h' : Hp} (hs : SubH σ h h') {i d len : Nat} {cs : List AV} (l : List Nat) (hd : ∀ j o, lk h'.l j = some o → σ j ≠ d) (hi : lk h.l d = some (.cells cs)) (hc : cs = flat slotA l) (hl : len = l.length) :
    WkL Try.prog σ h h' ((ofB m Q).set i (.sl d 0 len len 1)) (ofB m (updQ Q i l)) := by
  subst hc; subst hl
  refine wkl_get (by simp [ofB]) fun j x y hx hy => ?_
  by_cases hj : j < m
  · rw [of_get hj] at hy
    cases hy
    by_cases e : i = j
    · subst e
      rw [List.getElem?_set, if_pos rfl, if_pos (by rw [of_len]; exact hj)] at hx
      cases hx
      rw [updQ_at]
      refine wk_frz hi hd hs (by simp) (fun e he => ?_) ?_ fun e he x hx => ?_
      · obtain ⟨s, _, rfl⟩ := List.mem_map.1 he; rfl
      · rw [List.drop_zero, List.take_of_length_le (by rw [flat_len slot_len]; exact Nat.le_refl _)]; rfl
      · obtain ⟨s, _, rfl⟩ := List.mem_map.1 he; exact slot_plain s x hx
    · rw [List.getElem?_set, if_neg e, of_get hj] at hx
      cases hx
      rw [show updQ Q i l j = Q j by unfold updQ; rw [if_neg (fun h => e h.symm)]]
      exact wk_plain hs slots_plain
  · rw [List.getElem?_eq_none (by rw [of_len]; omega)] at hy; cases hy
theorem ref_not {d : Nat} (h3 : 3 ≤ d) : ∀ j o, lk (Hp.l ⟨refB n m V Q, 3⟩) j = some o → rn [] j ≠ d := fun j o hj => by
  simp only [refB, lk] at hj
  show j ≠ d
  split at hj
  · omega
  · split at hj
    · omega
    · split at hj
      · omega
      · cases hj
set_option maxHeartbeats 1600000 in
theorem r_put (i s : Nat) (X Y : List Nat) (hi : i < m) (hQ : Q i = X ++ Y) (hl : (Q i).length ≤ 8000) :
    LocR 73 [.int .i64 (i : Nat), .int .i64 (X.length : Nat), .int .i64 (s : Nat)] n m (refB n m V Q) (.tup []) (refB n m V (updQ Q i (X ++ s :: Y))) := by
  have g := of_get (Q := Q) hi
  rw [hQ] at g hl
  unfold slotsA at g
  simp only [List.length_append, List.length_cons] at hl
  have hXY : (List.map slotA (X ++ Y)).length = X.length + Y.length := by simp
  refine LocR.mk (loc_x hmix b73 rfl ?_)
  unfold c73
  by_cases hX : X = []
  · subst hX
    by_cases hY : Y = []
    · subst hY
      (refine wx_Lh ?_; repeat' (first | with_reducible refine And.intro ?_ ?_ | intro hsp))
      all_goals exact end_ref wk_none rfl rfl rfl fun hs => wkl_frz1 hs [s] (ref_not (by decide)) rfl (by simp [flat, slotA]) (by simp; try omega)
    · have hY0 : 0 < Y.length := List.length_pos_iff.2 hY
      (refine wx_Lh ?_; repeat' (first | with_reducible refine And.intro ?_ ?_ | intro hsp))
      all_goals exact end_ref wk_none rfl rfl rfl fun hs => wkl_frz1 hs ([] ++ s :: Y) (ref_not (by decide)) rfl (by simp [flat, slotA]) (by simp; try omega)
  · have hX0 : 0 < X.length := List.length_pos_iff.2 hX
    by_cases hY : Y = []
    · subst hY
      (refine wx_Lh ?_; repeat' (first | with_reducible refine And.intro ?_ ?_ | intro hsp))
      all_goals exact end_ref wk_none rfl rfl rfl fun hs => wkl_frz1 hs (X ++ s :: []) (ref_not (by decide)) rfl (by simp [flat, slotA]) (by simp; try omega)
    · have hY0 : 0 < Y.length := List.length_pos_iff.2 hY
      (refine wx_Lh ?_; repeat' (first | with_reducible refine And.intro ?_ ?_ | intro hsp))
      all_goals exact end_ref wk_none rfl rfl rfl fun hs => wkl_frz1 hs (X ++ s :: Y) (ref_not (by decide)) rfl (by simp [flat, slotA]) (by simp; try omega)
set_option maxHeartbeats 1600000 in
theorem r_cut (i s : Nat) (X Y : List Nat) (hi : i < m) (hQ : Q i = X ++ s :: Y) (hl : (Q i).length ≤ 8000) :
    LocR 74 [.int .i64 (i : Nat), .int .i64 (X.length : Nat)] n m (refB n m V Q) (.tup []) (refB n m V (updQ Q i (X ++ Y))) := by
  have g := of_get (Q := Q) hi
  rw [hQ] at g hl
  unfold slotsA at g
  simp only [List.length_append, List.length_cons] at hl
  have hXY : (List.map slotA (X ++ s :: Y)).length = X.length + (Y.length + 1) := by simp
  refine LocR.mk (loc_x hmix b74 rfl ?_)
  unfold c74
  have hw : IntKind.i64.wrap ((X.length : Int) + 1) = ((X.length + 1 : Nat) : Int) := by rw [IntWalk.i64_in _ (by omega)]; omega
  by_cases hX : X = []
  · subst hX
    by_cases hY : Y = []
    · subst hY
      (refine wx_Lh ?_; repeat' (first | with_reducible refine And.intro ?_ ?_ | intro hsp))
      all_goals exact end_ref wk_none rfl rfl rfl fun hs => wkl_frz1 hs [] (ref_not (by decide)) rfl (by simp [flat, slotA]) (by simp; try omega)
    · have hY0 : 0 < Y.length := List.length_pos_iff.2 hY
      (refine wx_Lh ?_; repeat' (first | with_reducible refine And.intro ?_ ?_ | intro hsp))
      all_goals exact end_ref wk_none rfl rfl rfl fun hs => wkl_frz1 hs ([] ++ Y) (ref_not (by decide)) rfl (by simp [flat, slotA]) (by simp; try omega)
  · have hX0 : 0 < X.length := List.length_pos_iff.2 hX
    by_cases hY : Y = []
    · subst hY
      (refine wx_Lh ?_; repeat' (first | with_reducible refine And.intro ?_ ?_ | intro hsp))
      all_goals exact end_ref wk_none rfl rfl rfl fun hs => wkl_frz1 hs (X ++ []) (ref_not (by decide)) rfl (by simp [flat, slotA]) (by simp; try omega)
    · have hY0 : 0 < Y.length := List.length_pos_iff.2 hY
      (refine wx_Lh ?_; repeat' (first | with_reducible refine And.intro ?_ ?_ | intro hsp))
      all_goals exact end_ref wk_none rfl rfl rfl fun hs => wkl_frz1 hs (X ++ Y) (ref_not (by decide)) rfl (by simp [flat, slotA]) (by simp; try omega)
end
end Go.Proofs.Ytkjimnhmiojcdaa
namespace Go.Pol
/-- The lists hold each slot once. -/
structure Qok (n m : Nat) (Q : Nat → List Nat) : Prop where
  m_le : m ≤ 64
  n_le : n ≤ 8000
  n_pos : 0 < n
  out : ∀ i, m ≤ i → Q i = []
  us : ∀ i s, s ∈ Q i → s < n
  nd : ∀ i, (Q i).Nodup
  one : ∀ i j s, s ∈ Q i → s ∈ Q j → i = j
theorem Qok.len {n m : Nat} {Q : Nat → List Nat} (h : Qok n m Q) (i : Nat) : (Q i).length ≤ 8000 := Nat.le_trans (len_le n _ (h.nd i) (h.us i)) h.n_le
theorem St.qok {n m : Nat} {L N P A B C : Nat → Int} {Q : Nat → List Nat} (h : St n m L N P A B C Q) (hm : m ≤ 64) (hn : n ≤ 8000) (h0 : 0 < n) : Qok n m Q := ⟨hm, hn, h0, h.out, fun i s hs => (h.us i s hs).1, h.nd, fun _ _ _ h1 h2 => h.one h1 h2⟩
theorem at_of {m : Nat} {Q : Nat → List Nat} (ho : ∀ i, m ≤ i → Q i = []) {s i : Nat} (h : s ∈ Q i) : ∃ X Y, AtQ m Q s i X Y := by
  obtain ⟨X, Y, e⟩ := List.append_of_mem h
  refine ⟨X, Y, Nat.lt_of_not_le fun hm => ?_, e⟩
  rw [ho i hm] at h; cases h
theorem nth_mid {X Y : List Nat} {s : Nat} : nth 0 (X ++ s :: Y) X.length = s := by simp [nth]
theorem nth_pre {X Y : List Nat} {s l : Nat} (h : l < X.length) : nth 0 (X ++ s :: Y) l ∈ X := by
  rw [nth, List.getElem?_append_left h, List.getElem?_eq_getElem h]; exact List.getElem_mem h
end Go.Pol
namespace Go.Proofs.Ytkjimnhmiojcdaa
open Go Go.Am Go.Pol
theorem wkx_Li {p : Prop} (h : p := by (refine weak_s (by exact oneOf_of rfl) (by exact subH_of rfl) (by intro hs; (repeat' ((try (conv => whnf)); first | with_reducible exact True.intro | with_reducible refine And.intro ?_ ?_ | (with_reducible refine WkX.mk ?_; first | exact wk_int (by first | rfl | omega | (dsimp only; omega)) | exact wk_bool rfl | exact wk_ptr rfl (by first | decide | omega | simp) | exact wk_sl rfl (by first | decide | omega | simp) (by first | rfl | omega | simp) (by first | omega | simp) (by first | omega | simp) | exact wk_plain hs (by (first | assumption | exact plain_int | exact plain_bool | exact plain_undef | exact plain_nils | exact plain_nilp | exact plain_nilf | exact plain_str | with_reducible apply slots_plain)))))) (by intro hs; (try dsimp only); (repeat' (first | with_reducible exact wko_nil | refine wko_plain hs (by first | decide | omega | simp) rfl (by first | rfl) (by (first | with_reducible assumption | with_reducible apply of_plain _ _ | with_reducible apply memI_plain _ _ | with_reducible apply plain_map (fun _ => plain_int) | with_reducible apply plain_map (fun _ => plain_bool) | ((repeat' (first | exact plain_all0 | refine plain_all2 ?_ ?_ | exact plain_int | first | assumption | exact plain_int | exact plain_bool | exact plain_undef | exact plain_nils | exact plain_nilp | exact plain_nilf | exact plain_str | with_reducible apply slots_plain)); done) | ((refine plain_app ?_ ?_) <;> (first | with_reducible assumption | with_reducible apply of_plain _ _ | with_reducible apply memI_plain _ _ | with_reducible apply plain_map (fun _ => plain_int) | with_reducible apply plain_map (fun _ => plain_bool) | ((repeat' (first | exact plain_all0 | refine plain_all2 ?_ ?_ | exact plain_int | first | assumption | exact plain_int | exact plain_bool | exact plain_undef | exact plain_nils | exact plain_nilp | exact plain_nilf | exact plain_str | with_reducible apply slots_plain)); done))))) ?_ | refine wko_cells (by first | decide | omega | simp) rfl (by repeat' (first | with_reducible exact wkl_nil | with_reducible refine wkl_cons ?_ ?_ | (first | exact wk_int (by first | rfl | omega | (dsimp only; omega)) | exact wk_bool rfl | exact wk_ptr rfl (by first | decide | omega | simp) | exact wk_sl rfl (by first | decide | omega | simp) (by first | rfl | omega | simp) (by first | omega | simp) (by first | omega | simp) | exact wk_plain hs (by (first | assumption | exact plain_int | exact plain_bool | exact plain_undef | exact plain_nils | exact plain_nilp | exact plain_nilf | exact plain_str | with_reducible apply slots_plain))))) ?_ | exact wko_nil))))) : p := h
theorem wx_Li {p q : Prop} (hq : q) (h : HidP q → p := by (intro hQz; ((repeat' ((try (conv => whnf)); first | (with_reducible first | refine run_cons ?_ | refine runq_cons ?_ | refine code_seq ?_ | refine code_reg ?_ | refine code_cond ?_ | refine run_nil ?_ | refine runq_nil ?_ | refine rund_op rfl ?_ | refine rund_nil ?_ | refine code_block ?_ | refine code_skip ?_ | refine code_exit ?_ | refine code_ret ?_ | refine code_range ?_ | refine rund_fast (by decide +kernel) ?_ | refine rund_slow (by decide +kernel) ?_ | refine br_tt ?_ | refine br_ff ?_ | refine br_n ?_ | refine br_and ?_ | refine br_or ?_ | refine br_t (by assumption) ?_ | refine br_f (by assumption) ?_ | refine eq_i64 (by omega) ?_ | refine el_tn ?_) | ((with_reducible refine br_dt ?_ ?_); focus omega) | ((with_reducible refine br_df ?_ ?_); focus omega) | ((with_reducible apply br_dq hQz) <;> (try intro hsp hQz)) | ((with_reducible refine ck_x ?_ ?_); focus (first | omega | rfl | assumption | decide | (simp only [List.length_map, List.length_cons, List.length_nil]; omega))) | (with_reducible first | refine eq_tn ?_ | refine eq_tn1 ?_ | refine eq_tn2 ?_ | refine eq_m1 ?_ | refine eq_m2 ?_ | refine eq_zm ?_ | refine eq_z ?_ | refine len_map ?_ | refine len_sl ?_ | refine len_nils ?_ | refine len_own' ?_ | refine len_isl ?_ | refine eq_u8 (by omega) ?_ | refine eq_u16 (by omega) ?_) | refine set1K_of (by rw [memI_len]; omega) (memI_set n V _ _) ?_ | refine nthK_of (memI_get hsn) ?_ | refine nthK_of (g) ?_ | (with_reducible first | refine eq_rfl ?_ | refine ChkX.mk (by kernel_rfl) ?_ | refine code_q rfl ?_ | refine code_d (by decide +kernel) ?_ | refine end_go rfl ?_) | refine cx_ref hf rfl rfl rfl (by decide) (by first | (simp [plain_int]; done) | fail) plain_ints rfl ?_ | refine cx_ref hf rfl rfl rfl (by decide) (by first | (simp [plain_int]; done) | fail) plain_int rfl ?_ | refine cx_ref hd rfl rfl rfl (by decide) (by first | (simp [plain_int, plain_bool]; done) | fail) plain_ints rfl ?_ | refine cx_ref hp rfl rfl rfl (by decide) (by first | (simp [plain_int]; done) | fail) plain_none rfl ?_ | refine len_map ?_ | refine len_isl ?_ | refine el_of rfl rfl ?_ | refine del_own ?_ | refine del_own' rfl ?_ | refine as_go rfl ?_ | refine rd_go rfl ?_ | refine rg_end rfl ?_ | refine flat_ownX ?_ | refine EqLX.mk ?_ | ((with_reducible apply br_bq hQz) <;> (try intro hsp hQz)) | exact hQz.out)) <;> (try (conv => whnf))))) : p := h ⟨hq⟩
theorem wx_Lin {p q : Prop} (hq : q) (h : HidP q → p := by (intro hQz; ((repeat' ((try (conv => whnf)); first | (with_reducible first | refine run_cons ?_ | refine runq_cons ?_ | refine code_seq ?_ | refine code_reg ?_ | refine code_cond ?_ | refine run_nil ?_ | refine runq_nil ?_ | refine rund_op rfl ?_ | refine rund_nil ?_ | refine code_block ?_ | refine code_skip ?_ | refine code_exit ?_ | refine code_ret ?_ | refine code_range ?_ | refine rund_fast (by decide +kernel) ?_ | refine rund_slow (by decide +kernel) ?_ | refine br_tt ?_ | refine br_ff ?_ | refine br_n ?_ | refine br_and ?_ | refine br_or ?_ | refine br_t (by assumption) ?_ | refine br_f (by assumption) ?_ | refine eq_i64 (by omega) ?_ | refine el_tn ?_) | ((with_reducible refine br_dt ?_ ?_); focus omega) | ((with_reducible refine br_df ?_ ?_); focus omega) | ((with_reducible apply br_dq hQz) <;> (try intro hsp hQz)) | ((with_reducible refine ck_x ?_ ?_); focus (first | omega | rfl | assumption | decide | (simp only [List.length_map, List.length_cons, List.length_nil]; omega) | exact hw)) | refine eq_of (hw) ?_ | (with_reducible first | refine eq_tn ?_ | refine eq_tn1 ?_ | refine eq_tn2 ?_ | refine eq_m1 ?_ | refine eq_m2 ?_ | refine eq_zm ?_ | refine eq_z ?_ | refine len_map ?_ | refine len_sl ?_ | refine len_nils ?_ | refine len_own' ?_ | refine len_isl ?_ | refine eq_u8 (by omega) ?_ | refine eq_u16 (by omega) ?_) | refine set1K_of (by rw [memI_len]; omega) (memI_set n V _ _) ?_ | (with_reducible first | refine eq_rfl ?_ | refine ChkX.mk (by kernel_rfl) ?_ | refine code_d (by decide +kernel) ?_ | refine end_go rfl ?_) | refine cx_ref hf rfl rfl rfl (by decide) (by first | (simp [plain_int]; done) | fail) plain_int rfl ?_ | refine cx_ref he rfl rfl rfl (by decide) (by first | (simp [plain_int, plain_bool]; done) | fail) plain_int rfl ?_ | refine cx_ref hp rfl rfl rfl (by decide) (by first | (simp [plain_int]; done) | fail) plain_none rfl ?_ | refine cx_ref hd rfl rfl rfl (by decide) (by first | (simp [plain_int, plain_bool]; done) | fail) plain_ints rfl ?_ | refine cx_ref hc rfl rfl rfl (by decide) (by first | (simp [plain_int]; done) | fail) plain_none rfl ?_ | refine len_map ?_ | refine len_isl ?_ | refine el_of rfl rfl ?_ | refine del_own ?_ | refine del_own' rfl ?_ | refine as_go rfl ?_ | refine rd_go rfl ?_ | refine rg_end rfl ?_ | refine flat_ownX ?_ | refine EqLX.mk ?_ | ((with_reducible apply br_bq hQz) <;> (try intro hsp hQz)) | exact hQz.out)) <;> (try (conv => whnf))))) : p := h ⟨hq⟩
theorem plain_ints {a b : Int} : Plain (.tup [.int .i64 a, .int .i64 b]) := plain_tup fun x hx => by
  rcases List.mem_cons.1 hx with rfl | hx
  · exact plain_int
  · obtain rfl := List.mem_singleton.1 hx; exact plain_int
section
variable {n m : Nat} {V : Nat → Int} {Q : Nat → List Nat}
theorem q_find (h : Qok n m Q) {s i : Nat} {X Y : List Nat} (ha : AtQ m Q s i X Y) : LocR 71 [.int .i64 (s : Nat)] n m (refB n m V Q) (.tup [.int .i64 (i : Nat), .int .i64 (X.length : Nat)]) (refB n m V Q) := by
  have hsm : s ∈ Q i := by rw [ha.eq]; simp
  refine r_find s i X.length h.m_le h.len ha.i_lt (by rw [ha.eq]; simp) (by rw [ha.eq, nth_mid]) (fun j l hj hl e => ?_) fun l hl e => ?_
  · have e2 : s = nth 0 (Q j) l := by omega
    have := h.one i j s hsm (by rw [e2]; exact nth_mem hl)
    omega
  · have e2 : s = nth 0 (Q i) l := by omega
    rw [ha.eq] at e2
    have h1 : s ∈ X := by rw [e2]; exact nth_pre hl
    have hnd := h.nd i
    rw [ha.eq] at hnd
    exact (List.nodup_append.1 hnd).2.2 s h1 s (List.mem_cons_self ..) rfl
theorem q_find_no (h : Qok n m Q) (s : Int) (hs : noSlot n Q s) : LocR 71 [.int .i64 s] n m (refB n m V Q) (.tup [.int .i64 (-1), .int .i64 (-1)]) (refB n m V Q) := by
  refine r_find_no s h.m_le h.len fun j l hj hl e => ?_
  have hm := nth_mem (d := 0) hl
  exact hs _ e (h.us j _ hm) j hm
theorem q_free (h : Qok n m Q) {s : Nat} (hs : freeAt n Q s) : LocR 72 [] n m (refB n m V Q) (.int .i64 (s : Nat)) (refB n m V Q) := by
  have hn := h.n_le
  have hsn := hs.1
  refine LocR.mk (loc_x hmix b72 rfl ?_)
  unfold c72
  (refine wx_Li ?_; repeat' (first | with_reducible refine And.intro ?_ ?_ | intro hsp))
  (refine loop_x [0] (fun (t : Nat) => [(3, .int .i64 (t : Nat))]) (fun (t : Nat) => ⟨refB n m V Q, 3⟩) (fun (t : Nat) => t ≤ s) (fun (t : Nat) => s - t) (0) [] rfl (fun _ => by first | exact Nat.zero_le _ | (dsimp only; omega)) ?_ (by ((try (conv => whnf)); exact wkx_Li)) ?_)
  · exact Nat.zero_le _
  intro t ht
  by_cases hts : t < s
  · obtain ⟨i, hi⟩ := hs.2.2 t hts
    obtain ⟨X, Y, ha⟩ := at_of h.out hi
    have hf := q_find (V := V) h ha
    (refine wx_Li ?_; repeat' (first | with_reducible refine And.intro ?_ ?_ | intro hsp))
    exact next_x (t + 1) [] (by (try dsimp only); omega) (by first | omega | (dsimp only; omega)) rfl (by exact wkx_Li)
  · obtain rfl : t = s := by omega
    have hf := q_find_no (V := V) h (t : Nat) fun k e _ => by
      have e2 : k = t := by omega
      subst e2; exact hs.2.1
    (refine wx_Li ?_; repeat' (first | with_reducible refine And.intro ?_ ?_ | intro hsp))
    exact end_ref (wk_int rfl) rfl rfl rfl wkl_of
theorem q_free_no (h : Qok n m Q) (hs : fullAt n Q) : LocR 72 [] n m (refB n m V Q) (.int .i64 (-1)) (refB n m V Q) := by
  have hn := h.n_le
  refine LocR.mk (loc_x hmix b72 rfl ?_)
  unfold c72
  (refine wx_Li ?_; repeat' (first | with_reducible refine And.intro ?_ ?_ | intro hsp))
  (refine loop_x [0] (fun (t : Nat) => [(3, .int .i64 (t : Nat))]) (fun (t : Nat) => ⟨refB n m V Q, 3⟩) (fun (t : Nat) => t ≤ n) (fun (t : Nat) => n - t) (0) [] rfl (fun _ => by first | exact Nat.zero_le _ | (dsimp only; omega)) ?_ (by ((try (conv => whnf)); exact wkx_Li)) ?_)
  · exact Nat.zero_le _
  intro t ht
  by_cases hts : t < n
  · obtain ⟨i, hi⟩ := hs t hts
    obtain ⟨X, Y, ha⟩ := at_of h.out hi
    have hf := q_find (V := V) h ha
    (refine wx_Li ?_; repeat' (first | with_reducible refine And.intro ?_ ?_ | intro hsp))
    exact next_x (t + 1) [] (by (try dsimp only); omega) (by first | omega | (dsimp only; omega)) rfl (by exact wkx_Li)
  · (refine wx_Li ?_; repeat' (first | with_reducible refine And.intro ?_ ?_ | intro hsp))
    exact end_ref (wk_int rfl) rfl rfl rfl wkl_of
theorem q_push (h : Qok n m Q) {s i : Nat} (hs : freeAt n Q s) (hi : i < m) (v : Int) (b : Bool) :
    LocR 69 [.int .i64 (i : Nat), .int .i64 v, .bool b] n m (refB n m V Q) (.tup [.int .i64 (s : Nat), .int .i64 0]) (refB n m (updI V s v) (updQ Q i (if b = true then s :: Q i else Q i ++ [s]))) := by
  have hm := h.m_le
  have hsn := hs.1
  have hf := q_free (V := V) h hs
  have he := r_end (n := n) (V := V) (Q := Q) i b hi
  have hp : LocR 73 [.int .i64 (i : Nat), .int .i64 (if b = true then 0 else ((Q i).length : Nat)), .int .i64 (s : Nat)] n m (refB n m V Q) (.tup []) (refB n m V (updQ Q i (if b = true then s :: Q i else Q i ++ [s]))) := by
    cases b
    · exact r_put i s (Q i) [] hi (by simp) (h.len i)
    · exact r_put i s [] (Q i) hi (by simp) (h.len i)
  refine LocR.mk (loc_x hmix b69 rfl ?_)
  unfold c69
  (refine wx_Lin ?_; repeat' (first | with_reducible refine And.intro ?_ ?_ | intro hsp))
  exact end_ref (wk_ints rfl rfl) rfl rfl rfl wkl_of
theorem q_push_full (h : Qok n m Q) {i : Nat} (hs : fullAt n Q) (hi : i < m) (v : Int) (b : Bool) :
    LocR 69 [.int .i64 (i : Nat), .int .i64 v, .bool b] n m (refB n m V Q) (.tup [.int .i64 0, .int .i64 5]) (refB n m V Q) := by
  have hm := h.m_le
  have hf := q_free_no (V := V) h hs
  refine LocR.mk (loc_x hmix b69 rfl ?_)
  unfold c69
  (refine wx_Li ?_; repeat' (first | with_reducible refine And.intro ?_ ?_ | intro hsp))
  exact end_ref (wk_ints rfl rfl) rfl rfl rfl wkl_of
theorem q_push_no (h : Qok n m Q) (i : Int) (hi : i < 0 ∨ (m : Int) ≤ i) (v : Int) (b : Bool) :
    LocR 69 [.int .i64 i, .int .i64 v, .bool b] n m (refB n m V Q) (.tup [.int .i64 0, .int .i64 7]) (refB n m V Q) := by
  have hm := h.m_le
  refine LocR.mk (loc_x hmix b69 rfl ?_)
  unfold c69
  (refine wx_Li ?_; repeat' (first | with_reducible refine And.intro ?_ ?_ | intro hsp))
  all_goals exact end_ref (wk_ints rfl rfl) rfl rfl rfl wkl_of
theorem q_after (h : Qok n m Q) {s x i : Nat} {X Y : List Nat} (hs : freeAt n Q s) (hx : AtQ m Q x i X Y) (v : Int) :
    LocR 53 [.int .i64 (x : Nat), .int .i64 v] n m (refB n m V Q) (.tup [.int .i64 (s : Nat), .int .i64 0]) (refB n m (updI V s v) (updQ Q i (X ++ x :: s :: Y))) := by
  have hm := h.m_le
  have hsn := hs.1
  have hlen := h.len i
  have hlX : X.length < 8000 := by rw [hx.eq] at hlen; simp at hlen; omega
  have hf := q_free (V := V) h hs
  have hd := q_find (V := V) h hx
  have hp := r_put (n := n) (V := V) i s (X ++ [x]) Y hx.i_lt (by rw [hx.eq]; simp) hlen
  rw [show (X ++ [x]).length = X.length + 1 by simp, show (X ++ [x]) ++ s :: Y = X ++ x :: s :: Y by simp] at hp
  have hw : IntKind.i64.wrap ((X.length : Int) + 1) = ((X.length + 1 : Nat) : Int) := by rw [IntWalk.i64_in _ (by omega)]; omega
  refine LocR.mk (loc_x hmix b53 rfl ?_)
  unfold c53
  (refine wx_Lin ?_; repeat' (first | with_reducible refine And.intro ?_ ?_ | intro hsp))
  exact end_ref (wk_ints rfl rfl) rfl rfl rfl wkl_of
theorem q_after_full (h : Qok n m Q) {x i : Nat} {X Y : List Nat} (hs : fullAt n Q) (hx : AtQ m Q x i X Y) (v : Int) :
    LocR 53 [.int .i64 (x : Nat), .int .i64 v] n m (refB n m V Q) (.tup [.int .i64 0, .int .i64 5]) (refB n m V Q) := by
  have hm := h.m_le
  have hf := q_free_no (V := V) h hs
  have hd := q_find (V := V) h hx
  refine LocR.mk (loc_x hmix b53 rfl ?_)
  unfold c53
  (refine wx_Li ?_; repeat' (first | with_reducible refine And.intro ?_ ?_ | intro hsp))
  exact end_ref (wk_ints rfl rfl) rfl rfl rfl wkl_of
theorem q_after_no (h : Qok n m Q) (s : Int) (hs : noSlot n Q s) (v : Int) :
    LocR 53 [.int .i64 s, .int .i64 v] n m (refB n m V Q) (.tup [.int .i64 0, .int .i64 4]) (refB n m V Q) := by
  have hd := q_find_no (V := V) h s hs
  refine LocR.mk (loc_x hmix b53 rfl ?_)
  unfold c53
  (refine wx_Li ?_; repeat' (first | with_reducible refine And.intro ?_ ?_ | intro hsp))
  exact end_ref (wk_ints rfl rfl) rfl rfl rfl wkl_of
theorem q_take (h : Qok n m Q) {s i : Nat} {X Y : List Nat} (hx : AtQ m Q s i X Y) :
    LocR 54 [.int .i64 (s : Nat)] n m (refB n m V Q) (.tup [.int .i64 (V s), .int .i64 0]) (refB n m (updI V s 0) (updQ Q i (X ++ Y))) := by
  have hm := h.m_le
  have hsn := h.us i s (by rw [hx.eq]; simp)
  have hd := q_find (V := V) h hx
  have hp := r_cut (n := n) (V := V) i s X Y hx.i_lt hx.eq (h.len i)
  refine LocR.mk (loc_x hmix b54 rfl ?_)
  unfold c54
  (refine wx_Li ?_; repeat' (first | with_reducible refine And.intro ?_ ?_ | intro hsp))
  exact end_ref (wk_ints rfl rfl) rfl rfl rfl wkl_of
theorem q_take_no (h : Qok n m Q) (s : Int) (hs : noSlot n Q s) : LocR 54 [.int .i64 s] n m (refB n m V Q) (.tup [.int .i64 0, .int .i64 4]) (refB n m V Q) := by
  have hd := q_find_no (V := V) h s hs
  refine LocR.mk (loc_x hmix b54 rfl ?_)
  unfold c54
  (refine wx_Li ?_; repeat' (first | with_reducible refine And.intro ?_ ?_ | intro hsp))
  exact end_ref (wk_ints rfl rfl) rfl rfl rfl wkl_of
theorem q_move (h : Qok n m Q) {s i j : Nat} {X Y : List Nat} (hx : AtQ m Q s i X Y) (hj : j < m) (b : Bool) :
    LocR 56 [.int .i64 (s : Nat), .int .i64 (j : Nat), .bool b] n m (refB n m V Q) (.int .i64 0) (refB n m V (updQ (updQ Q i (X ++ Y)) j (if b = true then s :: updQ Q i (X ++ Y) j else updQ Q i (X ++ Y) j ++ [s]))) := by
  have hm := h.m_le
  have hd := q_find (V := V) h hx
  have hc := r_cut (n := n) (V := V) i s X Y hx.i_lt hx.eq (h.len i)
  have he := r_end (n := n) (V := V) (Q := updQ Q i (X ++ Y)) j b hj
  have hlen : (updQ Q i (X ++ Y) j).length ≤ 8000 := by
    unfold updQ; split
    · have := h.len i; rw [hx.eq] at this; simp at this ⊢; omega
    · exact h.len j
  have hp : LocR 73 [.int .i64 (j : Nat), .int .i64 (if b = true then 0 else ((updQ Q i (X ++ Y) j).length : Nat)), .int .i64 (s : Nat)] n m (refB n m V (updQ Q i (X ++ Y))) (.tup []) (refB n m V (updQ (updQ Q i (X ++ Y)) j (if b = true then s :: updQ Q i (X ++ Y) j else updQ Q i (X ++ Y) j ++ [s]))) := by
    cases b
    · exact r_put j s _ [] hj (by simp) hlen
    · exact r_put j s [] _ hj (by simp) hlen
  refine LocR.mk (loc_x hmix b56 rfl ?_)
  unfold c56
  (refine wx_Lin ?_; repeat' (first | with_reducible refine And.intro ?_ ?_ | intro hsp))
  exact end_ref (wk_int rfl) rfl rfl rfl wkl_of
theorem q_move_no (h : Qok n m Q) (s j : Int) (b : Bool) (hs : noSlot n Q s) : LocR 56 [.int .i64 s, .int .i64 j, .bool b] n m (refB n m V Q) (.int .i64 4) (refB n m V Q) := by
  have hd := q_find_no (V := V) h s hs
  refine LocR.mk (loc_x hmix b56 rfl ?_)
  unfold c56
  (refine wx_Li ?_; repeat' (first | with_reducible refine And.intro ?_ ?_ | intro hsp))
  exact end_ref (wk_int rfl) rfl rfl rfl wkl_of
theorem q_move_bad (h : Qok n m Q) {s i : Nat} {X Y : List Nat} (hx : AtQ m Q s i X Y) (j : Int) (b : Bool) (hj : j < 0 ∨ (m : Int) ≤ j) : LocR 56 [.int .i64 (s : Nat), .int .i64 j, .bool b] n m (refB n m V Q) (.int .i64 7) (refB n m V Q) := by
  have hm := h.m_le
  have hd := q_find (V := V) h hx
  refine LocR.mk (loc_x hmix b56 rfl ?_)
  unfold c56
  (refine wx_Li ?_; repeat' (first | with_reducible refine And.intro ?_ ?_ | intro hsp))
  all_goals exact end_ref (wk_int rfl) rfl rfl rfl wkl_of
theorem q_get (h : Qok n m Q) {s i : Nat} {X Y : List Nat} (hx : AtQ m Q s i X Y) : LocR 60 [.int .i64 (s : Nat)] n m (refB n m V Q) (.tup [.int .i64 (V s), .int .i64 0]) (refB n m V Q) := by
  have hsn := h.us i s (by rw [hx.eq]; simp)
  have hd := q_find (V := V) h hx
  refine LocR.mk (loc_x hmix b60 rfl ?_)
  unfold c60
  (refine wx_Li ?_; repeat' (first | with_reducible refine And.intro ?_ ?_ | intro hsp))
  exact end_ref (wk_ints rfl rfl) rfl rfl rfl wkl_of
theorem q_get_no (h : Qok n m Q) (s : Int) (hs : noSlot n Q s) : LocR 60 [.int .i64 s] n m (refB n m V Q) (.tup [.int .i64 0, .int .i64 4]) (refB n m V Q) := by
  have hd := q_find_no (V := V) h s hs
  refine LocR.mk (loc_x hmix b60 rfl ?_)
  unfold c60
  (refine wx_Li ?_; repeat' (first | with_reducible refine And.intro ?_ ?_ | intro hsp))
  exact end_ref (wk_ints rfl rfl) rfl rfl rfl wkl_of
theorem q_put (h : Qok n m Q) {s i : Nat} {X Y : List Nat} (hx : AtQ m Q s i X Y) (v : Int) : LocR 58 [.int .i64 (s : Nat), .int .i64 v] n m (refB n m V Q) (.int .i64 0) (refB n m (updI V s v) Q) := by
  have hsn := h.us i s (by rw [hx.eq]; simp)
  have hd := q_find (V := V) h hx
  refine LocR.mk (loc_x hmix b58 rfl ?_)
  unfold c58
  (refine wx_Li ?_; repeat' (first | with_reducible refine And.intro ?_ ?_ | intro hsp))
  exact end_ref (wk_int rfl) rfl rfl rfl wkl_of
theorem q_put_no (h : Qok n m Q) (s : Int) (v : Int) (hs : noSlot n Q s) : LocR 58 [.int .i64 s, .int .i64 v] n m (refB n m V Q) (.int .i64 4) (refB n m V Q) := by
  have hd := q_find_no (V := V) h s hs
  refine LocR.mk (loc_x hmix b58 rfl ?_)
  unfold c58
  (refine wx_Li ?_; repeat' (first | with_reducible refine And.intro ?_ ?_ | intro hsp))
  exact end_ref (wk_int rfl) rfl rfl rfl wkl_of
theorem q_where (h : Qok n m Q) {s i : Nat} {X Y : List Nat} (hx : AtQ m Q s i X Y) : LocR 62 [.int .i64 (s : Nat)] n m (refB n m V Q) (.tup [.int .i64 (i : Nat), .int .i64 0]) (refB n m V Q) := by
  have hd := q_find (V := V) h hx
  refine LocR.mk (loc_x hmix b62 rfl ?_)
  unfold c62
  (refine wx_Li ?_; repeat' (first | with_reducible refine And.intro ?_ ?_ | intro hsp))
  exact end_ref (wk_ints rfl rfl) rfl rfl rfl wkl_of
theorem q_where_no (h : Qok n m Q) (s : Int) (hs : noSlot n Q s) : LocR 62 [.int .i64 s] n m (refB n m V Q) (.tup [.int .i64 0, .int .i64 4]) (refB n m V Q) := by
  have hd := q_find_no (V := V) h s hs
  refine LocR.mk (loc_x hmix b62 rfl ?_)
  unfold c62
  (refine wx_Li ?_; repeat' (first | with_reducible refine And.intro ?_ ?_ | intro hsp))
  exact end_ref (wk_ints rfl rfl) rfl rfl rfl wkl_of
theorem q_len (h : Qok n m Q) {i : Nat} (hi : i < m) : LocR 68 [.int .i64 (i : Nat)] n m (refB n m V Q) (.tup [.int .i64 ((Q i).length : Nat), .int .i64 0]) (refB n m V Q) := by
  have hm := h.m_le
  have g := of_get (Q := Q) hi
  unfold slotsA at g
  refine LocR.mk (loc_x hmix b68 rfl ?_)
  unfold c68
  (refine wx_Li ?_; repeat' (first | with_reducible refine And.intro ?_ ?_ | intro hsp))
  exact end_ref (wk_ints rfl rfl) rfl rfl rfl wkl_of
theorem q_len_no (h : Qok n m Q) (i : Int) (hi : i < 0 ∨ (m : Int) ≤ i) : LocR 68 [.int .i64 i] n m (refB n m V Q) (.tup [.int .i64 0, .int .i64 7]) (refB n m V Q) := by
  have hm := h.m_le
  refine LocR.mk (loc_x hmix b68 rfl ?_)
  unfold c68
  (refine wx_Li ?_; repeat' (first | with_reducible refine And.intro ?_ ?_ | intro hsp))
  all_goals exact end_ref (wk_ints rfl rfl) rfl rfl rfl wkl_of
theorem q_end_no (h : Qok n m Q) (i : Int) (b : Bool) (hi : i < 0 ∨ (m : Int) ≤ i) : LocR 66 [.int .i64 i, .bool b] n m (refB n m V Q) (.tup [.int .i64 0, .int .i64 7]) (refB n m V Q) := by
  have hm := h.m_le
  refine LocR.mk (loc_x hmix b66 rfl ?_)
  unfold c66
  (refine wx_Li ?_; repeat' (first | with_reducible refine And.intro ?_ ?_ | intro hsp))
  all_goals exact end_ref (wk_ints rfl rfl) rfl rfl rfl wkl_of
theorem q_step_no (h : Qok n m Q) (s : Int) (b : Bool) (hs : noSlot n Q s) : LocR 64 [.int .i64 s, .bool b] n m (refB n m V Q) (.tup [.int .i64 0, .int .i64 4]) (refB n m V Q) := by
  have hd := q_find_no (V := V) h s hs
  refine LocR.mk (loc_x hmix b64 rfl ?_)
  unfold c64
  (refine wx_Li ?_; repeat' (first | with_reducible refine And.intro ?_ ?_ | intro hsp))
  exact end_ref (wk_ints rfl rfl) rfl rfl rfl wkl_of
end
end Go.Proofs.Ytkjimnhmiojcdaa
namespace Go.Proofs.Ytkjimnhmiojcdaa
open Go Go.Am Go.Pol
theorem wx_Lj {p q : Prop} (hq : q) (h : HidP q → p := by (intro hQz; ((repeat' ((try (conv => whnf)); first | (with_reducible first | refine run_cons ?_ | refine runq_cons ?_ | refine code_seq ?_ | refine code_reg ?_ | refine code_cond ?_ | refine run_nil ?_ | refine runq_nil ?_ | refine rund_op rfl ?_ | refine rund_nil ?_ | refine code_block ?_ | refine code_skip ?_ | refine code_exit ?_ | refine code_ret ?_ | refine code_range ?_ | refine rund_fast (by decide +kernel) ?_ | refine rund_slow (by decide +kernel) ?_ | refine br_tt ?_ | refine br_ff ?_ | refine br_n ?_ | refine br_and ?_ | refine br_or ?_ | refine br_t (by assumption) ?_ | refine br_f (by assumption) ?_ | refine eq_i64 (by omega) ?_ | refine el_tn ?_) | ((with_reducible refine br_dt ?_ ?_); focus omega) | ((with_reducible refine br_df ?_ ?_); focus omega) | ((with_reducible apply br_dq hQz) <;> (try intro hsp hQz)) | ((with_reducible refine ck_x ?_ ?_); focus (first | omega | rfl | assumption | decide | (simp only [List.length_map, List.length_cons, List.length_nil]; omega) | exact hw | exact hw2)) | refine eq_of (hw) ?_ | refine eq_of (hw2) ?_ | (with_reducible first | refine eq_tn ?_ | refine eq_tn1 ?_ | refine eq_tn2 ?_ | refine eq_m1 ?_ | refine eq_m2 ?_ | refine eq_zm ?_ | refine eq_z ?_ | refine len_map ?_ | refine len_sl ?_ | refine len_nils ?_ | refine len_own' ?_ | refine len_isl ?_ | refine eq_u8 (by omega) ?_ | refine eq_u16 (by omega) ?_) | refine nthK_of (g) ?_ | refine el_mapE slot_len (by omega) hx' ?_ | refine el_mapE slot_len (by omega) hx ?_ | refine el_mapE slot_len (by omega) hy ?_ | (with_reducible first | refine eq_rfl ?_ | refine ChkX.mk (by kernel_rfl) ?_ | refine code_q rfl ?_ | refine code_d (by decide +kernel) ?_ | refine end_go rfl ?_) | refine cx_ref hd rfl rfl rfl (by decide) (by first | (simp [plain_int, plain_bool]; done) | fail) plain_ints rfl ?_ | refine len_map ?_ | refine len_isl ?_ | refine el_of rfl rfl ?_ | refine del_own ?_ | refine del_own' rfl ?_ | refine as_go rfl ?_ | refine rd_go rfl ?_ | refine rg_end rfl ?_ | refine flat_ownX ?_ | refine EqLX.mk ?_ | ((with_reducible apply br_bq hQz) <;> (try intro hsp hQz)) | exact hQz.out)) <;> (try (conv => whnf))))) : p := h ⟨hq⟩
section
variable {n m : Nat} {V : Nat → Int} {Q : Nat → List Nat}
theorem q_end (h : Qok n m Q) {i : Nat} (hi : i < m) (b : Bool) : LocR 66 [.int .i64 (i : Nat), .bool b] n m (refB n m V Q) (orErr (if b = true then hd (Q i) else lst (Q i)) 4) (refB n m V Q) := by
  have hm := h.m_le
  have hl := h.len i
  have g := of_get (Q := Q) hi
  unfold slotsA at g
  refine LocR.mk (loc_x hmix b66 rfl ?_)
  unfold c66
  by_cases hz : (Q i).length = 0
  · have hz2 := List.eq_nil_of_length_eq_zero hz
    (refine wx_Lj ?_; repeat' (first | with_reducible refine And.intro ?_ ?_ | intro hsp))
    refine end_ref (wk_ints ?_ ?_) rfl rfl rfl wkl_of <;> (rw [hz2]; simp [hd, lst]; try omega)
  · cases b
    · obtain ⟨R, x, hR⟩ := List.eq_nil_or_concat (Q i) |>.resolve_left (fun e => hz (by rw [e]; rfl))
      rw [List.concat_eq_append] at hR
      have hx : nth 0 (Q i) ((Q i).length - 1) = x := by rw [hR]; simp [nth]
      have hx' : nth 0 (Q i) (((Q i).length : Int) - 1).toNat = x := by rw [show (((Q i).length : Int) - 1).toNat = (Q i).length - 1 by omega]; exact hx
      (refine wx_Lj ?_; repeat' (first | with_reducible refine And.intro ?_ ?_ | intro hsp))
      refine end_ref (wk_ints ?_ ?_) rfl rfl rfl wkl_of <;> (rw [hR]; simp [lst]; try omega)
    · obtain ⟨x, R, hR⟩ := List.exists_cons_of_length_pos (show 0 < (Q i).length by omega)
      have hx : nth 0 (Q i) 0 = x := by rw [hR]; rfl
      (refine wx_Lj ?_; repeat' (first | with_reducible refine And.intro ?_ ?_ | intro hsp))
      refine end_ref (wk_ints ?_ ?_) rfl rfl rfl wkl_of <;> (rw [hR]; simp [hd]; try omega)
theorem q_step (h : Qok n m Q) {s i : Nat} {X Y : List Nat} (hx : AtQ m Q s i X Y) (b : Bool) : LocR 64 [.int .i64 (s : Nat), .bool b] n m (refB n m V Q) (orErr (if b = true then lst X else hd Y) 9) (refB n m V Q) := by
  have hm := h.m_le
  have hl := h.len i
  have hi := hx.i_lt
  have hle : (Q i).length = X.length + (Y.length + 1) := by rw [hx.eq]; simp
  have g := of_get (Q := Q) hx.i_lt
  unfold slotsA at g
  have hd := q_find (V := V) h hx
  have hw : IntKind.i64.wrap ((X.length : Int) + 1) = ((X.length + 1 : Nat) : Int) := by rw [IntWalk.i64_in _ (by omega)]; omega
  refine LocR.mk (loc_x hmix b64 rfl ?_)
  unfold c64
  cases b
  · cases Y with
    | nil =>
      simp only [List.length_nil] at hle
      (refine wx_Lj ?_; repeat' (first | with_reducible refine And.intro ?_ ?_ | intro hsp))
      refine end_ref (wk_ints ?_ ?_) rfl rfl rfl wkl_of <;> (simp [Go.Pol.hd]; try omega)
    | cons y R =>
      simp only [List.length_cons] at hle
      have hy : nth 0 (Q i) (X.length + 1) = y := by rw [hx.eq]; simp [nth]
      (refine wx_Lj ?_; repeat' (first | with_reducible refine And.intro ?_ ?_ | intro hsp))
      refine end_ref (wk_ints ?_ ?_) rfl rfl rfl wkl_of <;> (simp [Go.Pol.hd]; try omega)
  · rcases List.eq_nil_or_concat X with hX0 | ⟨R, x, hR⟩
    · have hXl : X.length = 0 := by rw [hX0]; rfl
      have hw2 : IntKind.i64.wrap ((X.length + 1 : Nat) - 2 : Int) = -1 := by rw [IntWalk.i64_in _ (by omega)]; omega
      (refine wx_Lj ?_; repeat' (first | with_reducible refine And.intro ?_ ?_ | intro hsp))
      refine end_ref (wk_ints ?_ ?_) rfl rfl rfl wkl_of <;> (rw [hX0]; simp [lst]; try omega)
    · rw [List.concat_eq_append] at hR
      have hXl : 0 < X.length := by rw [hR]; simp
      have hy : nth 0 (Q i) ((X.length : Int) + 1 - 2).toNat = x := by rw [show ((X.length : Int) + 1 - 2).toNat = X.length - 1 by omega, hx.eq, hR]; simp [nth]
      (refine wx_Lj ?_; repeat' (first | with_reducible refine And.intro ?_ ?_ | intro hsp))
      refine end_ref (wk_ints ?_ ?_) rfl rfl rfl wkl_of <;> (rw [hR]; simp [lst]; try omega)
end
end Go.Proofs.Ytkjimnhmiojcdaa
