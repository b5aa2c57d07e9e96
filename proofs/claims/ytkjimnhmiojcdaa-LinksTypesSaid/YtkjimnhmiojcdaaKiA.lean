/-
  The memory of a pool.
  Looks of a pool.
  tie, untie, least.
-/
import Derived.Test.YtkjimnhmiojcdaaHv
import Derived.Test.YtkjimnhmiojcdaaAmWt
set_option linter.unusedSimpArgs false
set_option linter.unusedVariables false
namespace Go.Proofs.Ytkjimnhmiojcdaa.Rt
open Go Go.Am Go.Pol
def z0 : PV := ⟨.nilp, plain_nilp⟩
def sel (V : Nat → PV) (L N P : Nat → Int) (k : Nat) : AV := if k % 4 = 0 then (V (k / 4)).1 else if k % 4 = 1 then .int .i64 (L (k / 4)) else if k % 4 = 2 then .int .i64 (N (k / 4)) else .int .i64 (P (k / 4))
def cellsB (n : Nat) (V : Nat → PV) (L N P : Nat → Int) : List AV := memV (n * 4) (sel V L N P)
section
variable {n m : Nat} {V : Nat → PV} {L N P A B C : Nat → Int} {s : Nat}
theorem cells_len : (cellsB n V L N P).length = n * 4 := memV_len ..
theorem cells_plain : ∀ x ∈ cellsB n V L N P, Plain x := memV_plain fun i => by
  unfold sel
  repeat' split
  all_goals first | exact plainV | exact plain_int
theorem gc0 (h : s < n) : (cellsB n V L N P)[s * 4]? = some ((V s).1) := by rw [cellsB, memV_get (by omega)]; unfold sel; rw [if_pos (by omega), show (s * 4) / 4 = s by omega]
theorem gc1 (h : s < n) : (cellsB n V L N P)[s * 4 + 1]? = some (.int .i64 (L s)) := by rw [cellsB, memV_get (by omega)]; unfold sel; rw [if_neg (by omega), if_pos (by omega), show (s * 4 + 1) / 4 = s by omega]
theorem gc2 (h : s < n) : (cellsB n V L N P)[s * 4 + 2]? = some (.int .i64 (N s)) := by rw [cellsB, memV_get (by omega)]; unfold sel; rw [if_neg (by omega), if_neg (by omega), if_pos (by omega), show (s * 4 + 2) / 4 = s by omega]
theorem gc3 (h : s < n) : (cellsB n V L N P)[s * 4 + 3]? = some (.int .i64 (P s)) := by rw [cellsB, memV_get (by omega)]; unfold sel; rw [if_neg (by omega), if_neg (by omega), if_neg (by omega), show (s * 4 + 3) / 4 = s by omega]
theorem sc0 {v : IP} : (cellsB n V L N P).set (s * 4) (.iptr v.1) = cellsB n (updV V s (ip v)) L N P := by
  rw [cellsB, memV_set, cellsB]; refine memV_congr fun k hk => ?_
  have hd : k = k / 4 * 4 + k % 4 := by omega
  have hm : k % 4 = 0 ∨ k % 4 = 1 ∨ k % 4 = 2 ∨ k % 4 = 3 := by omega
  unfold sel
  rcases hm with h | h | h | h
  all_goals (by_cases e : k / 4 = s)
  all_goals simp [updV, updI, h, e, z0, ip]
  all_goals omega
theorem sc0z : (cellsB n V L N P).set (s * 4) (z0.1) = cellsB n (updV V s z0) L N P := by
  rw [cellsB, memV_set, cellsB]; refine memV_congr fun k hk => ?_
  have hd : k = k / 4 * 4 + k % 4 := by omega
  have hm : k % 4 = 0 ∨ k % 4 = 1 ∨ k % 4 = 2 ∨ k % 4 = 3 := by omega
  unfold sel
  rcases hm with h | h | h | h
  all_goals (by_cases e : k / 4 = s)
  all_goals simp [updV, updI, h, e, z0, ip]
  all_goals omega
theorem sc1 {v : Int} : (cellsB n V L N P).set (s * 4 + 1) (.int .i64 v) = cellsB n V (updI L s v) N P := by
  rw [cellsB, memV_set, cellsB]; refine memV_congr fun k hk => ?_
  have hd : k = k / 4 * 4 + k % 4 := by omega
  have hm : k % 4 = 0 ∨ k % 4 = 1 ∨ k % 4 = 2 ∨ k % 4 = 3 := by omega
  unfold sel
  rcases hm with h | h | h | h
  all_goals (by_cases e : k / 4 = s)
  all_goals simp [updV, updI, h, e, z0, ip]
  all_goals omega
theorem sc2 {v : Int} : (cellsB n V L N P).set (s * 4 + 2) (.int .i64 v) = cellsB n V L (updI N s v) P := by
  rw [cellsB, memV_set, cellsB]; refine memV_congr fun k hk => ?_
  have hd : k = k / 4 * 4 + k % 4 := by omega
  have hm : k % 4 = 0 ∨ k % 4 = 1 ∨ k % 4 = 2 ∨ k % 4 = 3 := by omega
  unfold sel
  rcases hm with h | h | h | h
  all_goals (by_cases e : k / 4 = s)
  all_goals simp [updV, updI, h, e, z0, ip]
  all_goals omega
theorem sc3 {v : Int} : (cellsB n V L N P).set (s * 4 + 3) (.int .i64 v) = cellsB n V L N (updI P s v) := by
  rw [cellsB, memV_set, cellsB]; refine memV_congr fun k hk => ?_
  have hd : k = k / 4 * 4 + k % 4 := by omega
  have hm : k % 4 = 0 ∨ k % 4 = 1 ∨ k % 4 = 2 ∨ k % 4 = 3 := by omega
  unfold sel
  rcases hm with h | h | h | h
  all_goals (by_cases e : k / 4 = s)
  all_goals simp [updV, updI, h, e, z0, ip]
  all_goals omega
def poolB (n m : Nat) (fr : Int) (V : Nat → PV) (L N P A B C : Nat → Int) : List (Nat × AObj) := [(0, .cells [.sl 1 0 n n 4, .sl 2 0 m m 3, .int .i64 fr]), (1, .cells (cellsB n V L N P)), (2, .cells (endsB m A B C))]
end
end Go.Proofs.Ytkjimnhmiojcdaa.Rt
namespace Go.Proofs.Ytkjimnhmiojcdaa.Rt
open Go Go.Am Go.Pol
theorem wx_Kb {p q : Prop} (hq : q) (h : HidP q → p := by (intro hQz; ((repeat' ((try (conv => whnf)); first | (with_reducible first | refine run_cons ?_ | refine runq_cons ?_ | refine code_seq ?_ | refine code_reg ?_ | refine code_cond ?_ | refine run_nil ?_ | refine runq_nil ?_ | refine rund_op rfl ?_ | refine rund_nil ?_ | refine code_block ?_ | refine code_skip ?_ | refine code_exit ?_ | refine code_ret ?_ | refine code_range ?_ | refine rund_fast (by decide +kernel) ?_ | refine rund_slow (by decide +kernel) ?_ | refine br_tt ?_ | refine br_ff ?_ | refine br_n ?_ | refine br_and ?_ | refine br_or ?_ | refine br_t (by assumption) ?_ | refine br_f (by assumption) ?_ | refine eq_i64 (by omega) ?_ | refine el_tn ?_) | ((with_reducible refine br_dt ?_ ?_); focus omega) | ((with_reducible refine br_df ?_ ?_); focus omega) | ((with_reducible apply br_dq hQz) <;> (try intro hsp hQz)) | ((with_reducible refine ck_x ?_ ?_); focus (first | omega | rfl | assumption | decide | (simp only [List.length_map, List.length_cons, List.length_nil]; omega))) | (with_reducible first | refine eq_tn ?_ | refine eq_tn1 ?_ | refine eq_tn2 ?_ | refine eq_m1 ?_ | refine eq_m2 ?_ | refine eq_zm ?_ | refine eq_z ?_ | refine len_map ?_ | refine len_sl ?_ | refine len_nils ?_ | refine len_own' ?_ | refine len_isl ?_ | refine eq_u8 (by omega) ?_ | refine eq_u16 (by omega) ?_) | refine set1K_of (by rw [cells_len]; omega) sc0 ?_ | refine set1K_of (by rw [cells_len]; omega) sc0z ?_ | refine nthK_of (h1) ?_ | (with_reducible first | refine eq_rfl ?_ | refine ChkX.mk (by kernel_rfl) ?_ | refine code_q rfl ?_ | refine code_d (by decide +kernel) ?_ | refine end_go rfl ?_) | refine cx_pool hu rfl rfl rfl (by decide) (by first | (simp [plain_int, plainV, plainI, plain_pg]; done) | fail) plain_int rfl ?_ | (refine cx_in hmix b45 rfl ?_; unfold c45) | refine len_map ?_ | refine len_isl ?_ | refine el_of rfl rfl ?_ | refine del_own ?_ | refine del_own' rfl ?_ | refine as_go rfl ?_ | refine rd_go rfl ?_ | refine rg_end rfl ?_ | refine flat_ownX ?_ | refine EqLX.mk ?_ | ((with_reducible apply br_bq hQz) <;> (try intro hsp hQz)) | exact hQz.out)) <;> (try (conv => whnf))))) : p := h ⟨hq⟩
section
variable {n m : Nat} {fr : Int} {V : Nat → PV} {L N P A B C : Nat → Int}
theorem pool_not {n m : Nat} {fr : Int} {V : Nat → PV} {L N P A B C : Nat → Int} {d : Nat} (h3 : 3 ≤ d) : ∀ j o, lk (Hp.l ⟨poolB n m fr V L N P A B C, 3⟩) j = some o → rn [] j ≠ d := fun j o hj => by
  simp only [poolB, lk] at hj
  show j ≠ d
  split at hj
  · omega
  · split at hj
    · omega
    · split at hj
      · omega
      · cases hj
theorem pool_sub {n m : Nat} {fr : Int} {V : Nat → PV} {L N P A B C : Nat → Int} {h : Hp} (h0 : ∃ o, lk h.l 0 = some o) (h1 : ∃ o, lk h.l 1 = some o) (h2 : ∃ o, lk h.l 2 = some o) : SubH (rn []) h ⟨poolB n m fr V L N P A B C, 3⟩ := fun i o hi => by
  simp only [poolB, lk] at hi
  show ∃ o', lk h.l i = some o'
  split at hi
  · rename_i e; subst e; exact h0
  · split at hi
    · rename_i e; subst e; exact h1
    · split at hi
      · rename_i e; subst e; exact h2
      · cases hi
theorem end_pool {top : Bool} {h : Hp} {N0 : Nat} {x r : AV} {fr' : Int} (hr : WkV Try.prog (rn []) h ⟨poolB n m fr V L N P A B C, 3⟩ x r) (h0 : lk h.l 0 = some (.cells [.sl 1 0 n n 4, .sl 2 0 m m 3, .int .i64 fr'])) (h1 : lk h.l 1 = some (.cells (cellsB n V L N P))) (h2 : lk h.l 2 = some (.cells (endsB m A B C))) (e : fr' = fr := by rfl) (hN0 : N0 ≤ 3 := by decide) :
    EndX top Try.prog N0 h x (fun r' h' => r' = r ∧ h' = ⟨poolB n m fr V L N P A B C, 3⟩) := by
  subst e
  have hs : SubH (rn []) h ⟨poolB n m fr' V L N P A B C, 3⟩ := fun i o hi => by
    simp only [poolB, lk] at hi
    show ∃ o', lk h.l i = some o'
    split at hi
    · rename_i e; subst e; exact ⟨_, h0⟩
    · split at hi
      · rename_i e; subst e; exact ⟨_, h1⟩
      · split at hi
        · rename_i e; subst e; exact ⟨_, h2⟩
        · cases hi
  exact end_loc [] rfl hN0 (oneOf_of rfl) hr (wko_cells (show 0 < 3 by decide) h0 (wkl_cons (wk_sl rfl (show 1 < 3 by decide) rfl (Nat.le_refl _) (Nat.le_refl _)) (wkl_cons (wk_sl rfl (show 2 < 3 by decide) rfl (Nat.le_refl _) (Nat.le_refl _)) (wkl_cons (wk_int rfl) wkl_nil)))
    (wko_plain hs (show 1 < 3 by decide) h1 rfl cells_plain (wko_plain hs (show 2 < 3 by decide) h2 rfl ends_plain wko_nil))) ⟨rfl, rfl⟩
theorem cx_pool {f : Nat} {avs : List AV} {fr' : Int} {V' : Nat → PV} {L' N' P' A' B' C' : Nat → Int} {a b c nx : Nat} {l : List (Nat × AObj)} {r : AV} {K : AV → Hp → Prop} (hc : LocP f avs n m (poolB n m fr V L N P A B C) r (poolB n m fr' V' L' N' P' A' B' C'))
    (hl0 : lk l a = some (.cells [.sl b 0 n n 4, .sl c 0 m m 3, .int .i64 fr])) (hl1 : lk l b = some (.cells (cellsB n V L N P))) (hl2 : lk l c = some (.cells (endsB m A B C))) (hlt : a < nx ∧ b < nx ∧ c < nx)
    (ha : ∀ x ∈ avs, Plain x) (hr : Plain r) (hd : nodB [a, b, c] = true)
    (hk : filtK [a, b, c] l fun l2 => K r ⟨[(a, .cells [.sl b 0 n n 4, .sl c 0 m m 3, .int .i64 fr']), (b, .cells (cellsB n V' L' N' P')), (c, .cells (endsB m A' B' C'))] ++ l2, nx⟩) : CallX Try.prog G0 (.fn f [] []) (.ptr a 0 :: avs) ⟨l, nx⟩ K := by
  have e0 : enter [a, b, c] a 0 := rfl
  have e1 : enter [a, b, c] b 1 := rfl
  have e2 : enter [a, b, c] c 2 := rfl
  have k0 : back [a, b, c] nx 0 a := rfl
  have k1 : back [a, b, c] nx 1 b := rfl
  have k2 : back [a, b, c] nx 2 c := rfl
  refine cx_loc (l1 := [(a, .cells [.sl b 0 n n 4, .sl c 0 m m 3, .int .i64 fr']), (b, .cells (cellsB n V' L' N' P')), (c, .cells (endsB m A' B' C'))]) [a, b, c] hc.out plainG hd
    (.cons e0 hl0 ⟨rn_sl e1, rn_sl e2, rn_plain plain_int, trivial⟩ (.cons e1 hl1 (rnl_plain cells_plain) (.cons e2 hl2 (rnl_plain ends_plain) .nil)))
    ?_ (by intro x hx; simp only [List.mem_cons, List.not_mem_nil, or_false] at hx; omega) (rn_plain hr)
    (.cons k0 ⟨rn_sl k1, rn_sl k2, rn_plain plain_int, trivial⟩ (.cons k1 (rnl_plain cells_plain) (.cons k2 (rnl_plain ends_plain) .nil))) hk
  simp only [List.nil_append, List.append_nil]
  exact ⟨rn_ptr e0, rnl_plain ha⟩
theorem l_used (s : Nat) (hs : s < n) (hl : L s ≠ -1) : LocP 39 [.int .i64 (s : Nat)] n m (poolB n m fr V L N P A B C) (.int .i64 0) (poolB n m fr V L N P A B C) := by
  refine LocP.mk (loc_x hmix b39 rfl ?_)
  unfold c39
  have h1 := gc1 (V := V) (L := L) (N := N) (P := P) hs
  (refine wx_Kb ?_; repeat' (first | with_reducible refine And.intro ?_ ?_ | intro hsp))
  exact end_pool (wk_int rfl) rfl rfl rfl
theorem l_unused (s : Int) (hn : 0 < n) (h : ∀ k : Nat, s = (k : Int) → k < n → L k = -1) : LocP 39 [.int .i64 s] n m (poolB n m fr V L N P A B C) (.int .i64 4) (poolB n m fr V L N P A B C) := by
  refine LocP.mk (loc_x hmix b39 rfl ?_)
  unfold c39
  by_cases hb : s < 0 ∨ (n : Int) ≤ s
  · (refine wx_Kb ?_; repeat' (first | with_reducible refine And.intro ?_ ?_ | intro hsp))
    all_goals exact end_pool (wk_int rfl) rfl rfl rfl
  · obtain ⟨k, rfl⟩ := Int.eq_ofNat_of_zero_le (show 0 ≤ s by omega)
    have hk : k < n := by omega
    have h2 := h k rfl hk
    have h1 := gc1 (V := V) (L := L) (N := N) (P := P) hk
    (refine wx_Kb ?_; repeat' (first | with_reducible refine And.intro ?_ ?_ | intro hsp))
    all_goals exact end_pool (wk_int rfl) rfl rfl rfl
theorem l_has (i : Nat) (hn : 0 < n) (hi : i < m) : LocP 34 [.int .i64 (i : Nat)] n m (poolB n m fr V L N P A B C) (.int .i64 0) (poolB n m fr V L N P A B C) := by
  refine LocP.mk (loc_x hmix b34 rfl ?_)
  unfold c34
  (refine wx_Kb ?_; repeat' (first | with_reducible refine And.intro ?_ ?_ | intro hsp))
  all_goals exact end_pool (wk_int rfl) rfl rfl rfl
theorem l_hasnt (i : Int) (hn : 0 < n) (hi : i < 0 ∨ (m : Int) ≤ i) : LocP 34 [.int .i64 i] n m (poolB n m fr V L N P A B C) (.int .i64 7) (poolB n m fr V L N P A B C) := by
  refine LocP.mk (loc_x hmix b34 rfl ?_)
  unfold c34
  (refine wx_Kb ?_; repeat' (first | with_reducible refine And.intro ?_ ?_ | intro hsp))
  all_goals exact end_pool (wk_int rfl) rfl rfl rfl
theorem l_put (s : Nat) (v : IP) (hs : s < n) (hl : L s ≠ -1) : LocP 17 [.int .i64 (s : Nat), .iptr v.1] n m (poolB n m fr V L N P A B C) (.int .i64 0) (poolB n m fr (updV V s (ip v)) L N P A B C) := by
  refine LocP.mk (loc_x hmix b17 rfl ?_)
  unfold c17
  have h0 := gc0 (V := V) (L := L) (N := N) (P := P) hs
  have hu := l_used (m := m) (fr := fr) (V := V) (N := N) (P := P) (A := A) (B := B) (C := C) s hs hl
  (refine wx_Kb ?_; repeat' (first | with_reducible refine And.intro ?_ ?_ | intro hsp))
  all_goals exact end_pool (wk_int rfl) rfl rfl rfl
theorem l_put_no (s : Int) (v : IP) (hn : 0 < n) (h : ∀ k : Nat, s = (k : Int) → k < n → L k = -1) : LocP 17 [.int .i64 s, .iptr v.1] n m (poolB n m fr V L N P A B C) (.int .i64 4) (poolB n m fr V L N P A B C) := by
  refine LocP.mk (loc_x hmix b17 rfl ?_)
  unfold c17
  have hu := l_unused (m := m) (fr := fr) (V := V) (N := N) (P := P) (A := A) (B := B) (C := C) s hn h
  (refine wx_Kb ?_; repeat' (first | with_reducible refine And.intro ?_ ?_ | intro hsp))
  all_goals exact end_pool (wk_int rfl) rfl rfl rfl
end
end Go.Proofs.Ytkjimnhmiojcdaa.Rt
namespace Go.Proofs.Ytkjimnhmiojcdaa.Rt
open Go Go.Am Go.Pol
theorem wkx_Kc {p : Prop} (h : p := by (refine weak_s (by exact oneOf_of rfl) (by exact subH_of rfl) (by intro hs; (repeat' ((try (conv => whnf)); first | with_reducible exact True.intro | with_reducible refine And.intro ?_ ?_ | (with_reducible refine WkX.mk ?_; first | exact wk_int (by first | rfl | omega | (dsimp only; omega)) | exact wk_bool rfl | exact wk_ptr rfl (by first | decide | omega | simp) | exact wk_sl rfl (by first | decide | omega | simp) (by first | rfl | omega | simp) (by first | omega | simp) (by first | omega | simp) | exact wk_plain hs (by (first | assumption | exact plain_int | exact plain_bool | exact plain_undef | exact plain_nils | exact plain_nilp | exact plain_nilf | exact plain_str | with_reducible apply plainV | with_reducible apply plainI | with_reducible apply plain_pg)))))) (by intro hs; (try dsimp only); (repeat' (first | with_reducible exact wko_nil | refine wko_plain hs (by first | decide | omega | simp) rfl (by first | rfl) (by (first | with_reducible assumption | with_reducible apply cells_plain | with_reducible apply ends_plain | with_reducible apply plain_map (fun _ => plain_int) | with_reducible apply plain_map (fun _ => plain_bool) | ((repeat' (first | exact plain_all0 | refine plain_all2 ?_ ?_ | exact plain_int | first | assumption | exact plain_int | exact plain_bool | exact plain_undef | exact plain_nils | exact plain_nilp | exact plain_nilf | exact plain_str | with_reducible apply plainV | with_reducible apply plainI | with_reducible apply plain_pg)); done) | ((refine plain_app ?_ ?_) <;> (first | with_reducible assumption | with_reducible apply cells_plain | with_reducible apply ends_plain | with_reducible apply plain_map (fun _ => plain_int) | with_reducible apply plain_map (fun _ => plain_bool) | ((repeat' (first | exact plain_all0 | refine plain_all2 ?_ ?_ | exact plain_int | first | assumption | exact plain_int | exact plain_bool | exact plain_undef | exact plain_nils | exact plain_nilp | exact plain_nilf | exact plain_str | with_reducible apply plainV | with_reducible apply plainI | with_reducible apply plain_pg)); done))))) ?_ | refine wko_cells (by first | decide | omega | simp) rfl (by repeat' (first | with_reducible exact wkl_nil | with_reducible refine wkl_cons ?_ ?_ | (first | exact wk_int (by first | rfl | omega | (dsimp only; omega)) | exact wk_bool rfl | exact wk_ptr rfl (by first | decide | omega | simp) | exact wk_sl rfl (by first | decide | omega | simp) (by first | rfl | omega | simp) (by first | omega | simp) (by first | omega | simp) | exact wk_plain hs (by (first | assumption | exact plain_int | exact plain_bool | exact plain_undef | exact plain_nils | exact plain_nilp | exact plain_nilf | exact plain_str | with_reducible apply plainV | with_reducible apply plainI | with_reducible apply plain_pg))))) ?_ | exact wko_nil))))) : p := h
theorem wx_Kc {p q : Prop} (hq : q) (h : HidP q → p := by (intro hQz; ((repeat' ((try (conv => whnf)); first | (with_reducible first | refine run_cons ?_ | refine runq_cons ?_ | refine code_seq ?_ | refine code_reg ?_ | refine code_cond ?_ | refine run_nil ?_ | refine runq_nil ?_ | refine rund_op rfl ?_ | refine rund_nil ?_ | refine code_block ?_ | refine code_skip ?_ | refine code_exit ?_ | refine code_ret ?_ | refine code_range ?_ | refine rund_fast (by decide +kernel) ?_ | refine rund_slow (by decide +kernel) ?_ | refine br_tt ?_ | refine br_ff ?_ | refine br_n ?_ | refine br_and ?_ | refine br_or ?_ | refine br_t (by assumption) ?_ | refine br_f (by assumption) ?_ | refine eq_i64 (by omega) ?_ | refine el_tn ?_) | ((with_reducible refine br_dt ?_ ?_); focus omega) | ((with_reducible refine br_df ?_ ?_); focus omega) | ((with_reducible apply br_dq hQz) <;> (try intro hsp hQz)) | ((with_reducible refine ck_x ?_ ?_); focus (first | omega | rfl | assumption | decide | (simp only [List.length_map, List.length_cons, List.length_nil]; omega) | exact hw)) | refine eq_of (hw) ?_ | (with_reducible first | refine eq_tn ?_ | refine eq_tn1 ?_ | refine eq_tn2 ?_ | refine eq_m1 ?_ | refine eq_m2 ?_ | refine eq_zm ?_ | refine eq_z ?_ | refine len_map ?_ | refine len_sl ?_ | refine len_nils ?_ | refine len_own' ?_ | refine len_isl ?_ | refine eq_u8 (by omega) ?_ | refine eq_u16 (by omega) ?_) | refine set1K_of (by rw [cells_len]; omega) sc1 ?_ | refine set1K_of (by rw [cells_len]; omega) sc2 ?_ | refine set1K_of (by rw [cells_len]; omega) sc3 ?_ | refine set1K_of (by rw [ends_len]; omega) se0 ?_ | refine set1K_of (by rw [ends_len]; omega) se1 ?_ | refine set1K_of (by rw [ends_len]; omega) se2 ?_ | refine nthK_of (ge2 hi) ?_ | refine nthK_of (g1 _ _ _) ?_ | refine nthK_of (g2 _ _ _) ?_ | refine nthK_of (g3 _ _ _) ?_ | refine nthK_of (g4 _ _ _) ?_ | refine nthK_of (gc1 (by omega)) ?_ | refine nthK_of ((gc1 (by omega)).trans (by rw [hl])) ?_ | (with_reducible first | refine eq_rfl ?_ | refine ChkX.mk (by kernel_rfl) ?_ | refine code_q rfl ?_ | refine code_d (by decide +kernel) ?_ | refine end_go rfl ?_) | refine len_map ?_ | refine len_isl ?_ | refine el_of rfl rfl ?_ | refine del_own ?_ | refine del_own' rfl ?_ | refine as_go rfl ?_ | refine rd_go rfl ?_ | refine rg_end rfl ?_ | refine flat_ownX ?_ | refine EqLX.mk ?_ | ((with_reducible apply br_bq hQz) <;> (try intro hsp hQz)) | exact hQz.out)) <;> (try (conv => whnf))))) : p := h ⟨hq⟩
section
variable {n m : Nat} {fr : Int} {V : Nat → PV} {L N P A B C : Nat → Int}
theorem l_tie (x i : Nat) (p q : Int) (hx : x < n) (hi : i < m) (hp : p = -1 ∨ ∃ a : Nat, a < n ∧ p = (a : Int)) (hq : q = -1 ∨ ∃ a : Nat, a < n ∧ q = (a : Int)) (hC : 0 ≤ C i ∧ C i < 9000) :
    LocP 40 [.int .i64 (x : Nat), .int .i64 (i : Nat), .int .i64 p, .int .i64 q] n m (poolB n m fr V L N P A B C) (.tup []) (poolB n m fr V (updI L x i) (tieN N x p q) (tieP P x p q) (tieA A i x p) (tieA B i x q) (updI C i (C i + 1))) := by
  refine LocP.mk (loc_x hmix b40 rfl ?_)
  unfold c40
  have hw : IntKind.i64.wrap (C i + 1) = C i + 1 := IntWalk.i64_in _ (by omega)
  rcases hp with rfl | ⟨a, ha, rfl⟩
  · rcases hq with rfl | ⟨b, hb, rfl⟩
    · skip
      skip
      unfold tieN tieP tieA
      simp only [if_true, if_true]
      (refine wx_Kc ?_; repeat' (first | with_reducible refine And.intro ?_ ?_ | intro hsp))
      all_goals exact end_pool wk_none rfl rfl rfl
    · skip
      have q2 : ¬ ((b : Nat) : Int) = -1 := by omega
      unfold tieN tieP tieA
      simp only [if_true, q2, if_false, Int.toNat_natCast]
      (refine wx_Kc ?_; repeat' (first | with_reducible refine And.intro ?_ ?_ | intro hsp))
      all_goals exact end_pool wk_none rfl rfl rfl
  · rcases hq with rfl | ⟨b, hb, rfl⟩
    · have q1 : ¬ ((a : Nat) : Int) = -1 := by omega
      skip
      unfold tieN tieP tieA
      simp only [q1, if_false, Int.toNat_natCast, if_true]
      (refine wx_Kc ?_; repeat' (first | with_reducible refine And.intro ?_ ?_ | intro hsp))
      all_goals exact end_pool wk_none rfl rfl rfl
    · have q1 : ¬ ((a : Nat) : Int) = -1 := by omega
      have q2 : ¬ ((b : Nat) : Int) = -1 := by omega
      unfold tieN tieP tieA
      simp only [q1, if_false, Int.toNat_natCast, q2, if_false, Int.toNat_natCast]
      (refine wx_Kc ?_; repeat' (first | with_reducible refine And.intro ?_ ?_ | intro hsp))
      all_goals exact end_pool wk_none rfl rfl rfl
set_option maxHeartbeats 1600000 in
theorem l_untie (s i : Nat) (p q : Int) (hs : s < n) (hi : i < m) (hLs : L s = (i : Nat)) (hNs : N s = q) (hPs : P s = p) (hp : p = -1 ∨ ∃ a : Nat, a < n ∧ a ≠ s ∧ p = (a : Int)) (hq : q = -1 ∨ ∃ a : Nat, a < n ∧ q = (a : Int)) (hC : 0 < C i ∧ C i < 9000) :
    LocP 42 [.int .i64 (s : Nat)] n m (poolB n m fr V L N P A B C) (.tup []) (poolB n m fr V (updI L s (-1)) (unN N s p q) (unP P s p q) (unA A i p q) (unA B i q p) (updI C i (C i - 1))) := by
  refine LocP.mk (loc_x hmix b42 rfl ?_)
  unfold c42
  have hw : IntKind.i64.wrap (C i - 1) = C i - 1 := IntWalk.i64_in _ (by omega)
  have g1 : ∀ (V : Nat → PV) (N P : Nat → Int), (cellsB n V L N P)[s * 4 + 1]? = some (.int .i64 (i : Nat)) := fun V N P => (gc1 hs).trans (by rw [hLs])
  have g2 : ∀ (V : Nat → PV) (L P : Nat → Int), (cellsB n V L N P)[s * 4 + 2]? = some (.int .i64 q) := fun V L P => (gc2 hs).trans (by rw [hNs])
  have g3 : ∀ (V : Nat → PV) (L N : Nat → Int), (cellsB n V L N P)[s * 4 + 3]? = some (.int .i64 p) := fun V L N => (gc3 hs).trans (by rw [hPs])
  rcases hp with rfl | ⟨a, ha, hne, rfl⟩
  · rcases hq with rfl | ⟨b, hb, rfl⟩
    · skip
      unfold unN unP unA
      simp only [if_true, if_true]
      (refine wx_Kc ?_; repeat' (first | with_reducible refine And.intro ?_ ?_ | intro hsp))
      all_goals exact end_pool wk_none rfl rfl rfl
    · have q2 : ¬ ((b : Nat) : Int) = -1 := by omega
      skip
      unfold unN unP unA
      simp only [if_true, q2, if_false, Int.toNat_natCast]
      (refine wx_Kc ?_; repeat' (first | with_reducible refine And.intro ?_ ?_ | intro hsp))
      all_goals exact end_pool wk_none rfl rfl rfl
  · rcases hq with rfl | ⟨b, hb, rfl⟩
    · have q1 : ¬ ((a : Nat) : Int) = -1 := by omega
      have g4 : ∀ (V : Nat → PV) (L P : Nat → Int), (cellsB n V L (updI N a (-1)) P)[s * 4 + 2]? = some (.int .i64 (-1)) := fun V L P => (gc2 hs).trans (by rw [updI_ne (Ne.symm hne), hNs])
      unfold unN unP unA
      simp only [q1, if_false, Int.toNat_natCast, if_true]
      (refine wx_Kc ?_; repeat' (first | with_reducible refine And.intro ?_ ?_ | intro hsp))
      all_goals exact end_pool wk_none rfl rfl rfl
    · have q1 : ¬ ((a : Nat) : Int) = -1 := by omega
      have q2 : ¬ ((b : Nat) : Int) = -1 := by omega
      have g4 : ∀ (V : Nat → PV) (L P : Nat → Int), (cellsB n V L (updI N a ((b : Nat) : Int)) P)[s * 4 + 2]? = some (.int .i64 ((b : Nat) : Int)) := fun V L P => (gc2 hs).trans (by rw [updI_ne (Ne.symm hne), hNs])
      unfold unN unP unA
      simp only [q1, if_false, Int.toNat_natCast, q2, if_false, Int.toNat_natCast]
      (refine wx_Kc ?_; repeat' (first | with_reducible refine And.intro ?_ ?_ | intro hsp))
      all_goals exact end_pool wk_none rfl rfl rfl
theorem l_least (f s : Nat) (hf : f ≤ s) (hs : s < n) (hn : n ≤ 100000) (hu : ∀ t, f ≤ t → t < s → L t ≠ -1) (hl : L s = -1) : LocP 35 [] n m (poolB n m (f : Nat) V L N P A B C) (.int .i64 (s : Nat)) (poolB n m (s : Nat) V L N P A B C) := by
  refine LocP.mk (loc_x hmix b35 rfl ?_)
  unfold c35
  (refine wx_Kc ?_; repeat' (first | with_reducible refine And.intro ?_ ?_ | intro hsp))
  (refine loop_x [0] (fun (k : Nat) => []) (fun (k : Nat) => ⟨poolB n m (k : Nat) V L N P A B C, 3⟩) (fun (k : Nat) => f ≤ k ∧ k ≤ s) (fun (k : Nat) => s - k) (f) [] rfl (fun _ => by first | exact Nat.zero_le _ | (dsimp only; omega)) ?_ (by ((try (conv => whnf)); exact wkx_Kc)) ?_)
  · exact ⟨Nat.le_refl _, hf⟩
  rintro k ⟨hk1, hk2⟩
  by_cases hks : k < s
  · have h1 := hu k hk1 hks
    have hw : IntKind.i64.wrap ((k : Int) + 1) = ((k + 1 : Nat) : Int) := by rw [IntWalk.i64_in _ (by omega)]; omega
    (refine wx_Kc ?_; repeat' (first | with_reducible refine And.intro ?_ ?_ | intro hsp))
    exact next_x (k + 1) [] (by (try dsimp only); omega) (by first | omega | (dsimp only; omega)) rfl (by exact wkx_Kc)
  · obtain rfl : k = s := by omega
    (refine wx_Kc ?_; repeat' (first | with_reducible refine And.intro ?_ ?_ | intro hsp))
    exact end_pool (wk_int rfl) rfl rfl rfl
theorem l_least_no (f : Nat) (hf : f ≤ n) (hn : n ≤ 100000) (hu : ∀ t, f ≤ t → t < n → L t ≠ -1) : LocP 35 [] n m (poolB n m (f : Nat) V L N P A B C) (.int .i64 (-1)) (poolB n m (n : Nat) V L N P A B C) := by
  refine LocP.mk (loc_x hmix b35 rfl ?_)
  unfold c35
  (refine wx_Kc ?_; repeat' (first | with_reducible refine And.intro ?_ ?_ | intro hsp))
  (refine loop_x [0] (fun (k : Nat) => []) (fun (k : Nat) => ⟨poolB n m (k : Nat) V L N P A B C, 3⟩) (fun (k : Nat) => f ≤ k ∧ k ≤ n) (fun (k : Nat) => n - k) (f) [] rfl (fun _ => by first | exact Nat.zero_le _ | (dsimp only; omega)) ?_ (by ((try (conv => whnf)); exact wkx_Kc)) ?_)
  · exact ⟨Nat.le_refl _, hf⟩
  rintro k ⟨hk1, hk2⟩
  by_cases hks : k < n
  · have h1 := hu k hk1 hks
    have hw : IntKind.i64.wrap ((k : Int) + 1) = ((k + 1 : Nat) : Int) := by rw [IntWalk.i64_in _ (by omega)]; omega
    (refine wx_Kc ?_; repeat' (first | with_reducible refine And.intro ?_ ?_ | intro hsp))
    exact next_x (k + 1) [] (by (try dsimp only); omega) (by first | omega | (dsimp only; omega)) rfl (by exact wkx_Kc)
  · obtain rfl : k = n := by omega
    (refine wx_Kc ?_; repeat' (first | with_reducible refine And.intro ?_ ?_ | intro hsp))
    exact end_pool (wk_int rfl) rfl rfl rfl
end
end Go.Proofs.Ytkjimnhmiojcdaa.Rt
