/-
  The law's do: a call on both.
-/
import Derived.Test.YtkjimnhmiojcdaaAmWt
import Derived.Test.YtkjimnhmiojcdaaLk
import Derived.Test.YtkjimnhmiojcdaaAmWu
set_option linter.unusedSimpArgs false
set_option linter.unusedVariables false
namespace Go.Pol
open Go.Am
abbrev Cl := Nat × Int × Int × Int × Bool
def callA (x : Cl) : List AV := [.int .u8 (x.1 : Nat), .int .i64 x.2.1, .int .i64 x.2.2.1, .int .i64 x.2.2.2.1, .bool x.2.2.2.2]
end Go.Pol
namespace Go.Proofs.Ytkjimnhmiojcdaa
open Go Go.Am Go.Pol
theorem wx_Ll {p q : Prop} (hq : q) (h : HidP q → p := by (intro hQz; ((repeat' ((try (conv => whnf)); first | (with_reducible first | refine run_cons ?_ | refine runq_cons ?_ | refine code_seq ?_ | refine code_reg ?_ | refine code_cond ?_ | refine run_nil ?_ | refine runq_nil ?_ | refine rund_op rfl ?_ | refine rund_nil ?_ | refine code_block ?_ | refine code_skip ?_ | refine code_exit ?_ | refine code_ret ?_ | refine code_range ?_ | refine rund_fast (by decide +kernel) ?_ | refine rund_slow (by decide +kernel) ?_ | refine br_tt ?_ | refine br_ff ?_ | refine br_n ?_ | refine br_and ?_ | refine br_or ?_ | refine br_t (by assumption) ?_ | refine br_f (by assumption) ?_ | refine eq_i64 (by omega) ?_ | refine el_tn ?_) | ((with_reducible refine br_dt ?_ ?_); focus omega) | ((with_reducible refine br_df ?_ ?_); focus omega) | ((with_reducible apply br_dq hQz) <;> (try intro hsp hQz)) | ((with_reducible refine ck_x ?_ ?_); focus (first | omega | rfl | assumption | decide | (simp only [List.length_map, List.length_cons, List.length_nil]; omega) | exact hk)) | refine eq_of (hk) ?_ | (with_reducible first | refine eq_tn ?_ | refine eq_tn1 ?_ | refine eq_tn2 ?_ | refine eq_m1 ?_ | refine eq_m2 ?_ | refine eq_zm ?_ | refine eq_z ?_ | refine len_map ?_ | refine len_sl ?_ | refine len_nils ?_ | refine len_own' ?_ | refine len_isl ?_ | refine eq_u8 (by omega) ?_ | refine eq_u16 (by omega) ?_) | (with_reducible first | refine eq_rfl ?_ | refine ChkX.mk (by kernel_rfl) ?_ | refine code_q rfl ?_ | refine code_d (by decide +kernel) ?_ | refine end_go rfl ?_) | refine cx_pool hp rfl rfl rfl (by decide) (by first | (simp [plain_int, plain_bool]; done) | fail) plain_ints rfl ?_ | refine cx_ref hq rfl rfl rfl (by decide) (by first | (simp [plain_int, plain_bool]; done) | fail) plain_ints rfl ?_ | refine cx_pool hp' rfl rfl rfl (by decide) (by first | (simp [plain_int, plain_bool]; done) | fail) plain_ints rfl ?_ | refine cx_ref hq' rfl rfl rfl (by decide) (by first | (simp [plain_int, plain_bool]; done) | fail) plain_ints rfl ?_ | refine len_map ?_ | refine len_isl ?_ | refine el_of rfl rfl ?_ | refine del_own ?_ | refine del_own' rfl ?_ | refine as_go rfl ?_ | refine rd_go rfl ?_ | refine rg_end rfl ?_ | refine flat_ownX ?_ | refine EqLX.mk ?_ | ((with_reducible apply br_bq hQz) <;> (try intro hsp hQz)) | exact hQz.out)) <;> (try (conv => whnf))))) : p := h ⟨hq⟩
theorem wx_Lln {p q : Prop} (hq : q) (h : HidP q → p := by (intro hQz; ((repeat' ((try (conv => whnf)); first | (with_reducible first | refine run_cons ?_ | refine runq_cons ?_ | refine code_seq ?_ | refine code_reg ?_ | refine code_cond ?_ | refine run_nil ?_ | refine runq_nil ?_ | refine rund_op rfl ?_ | refine rund_nil ?_ | refine code_block ?_ | refine code_skip ?_ | refine code_exit ?_ | refine code_ret ?_ | refine code_range ?_ | refine rund_fast (by decide +kernel) ?_ | refine rund_slow (by decide +kernel) ?_ | refine br_tt ?_ | refine br_ff ?_ | refine br_n ?_ | refine br_and ?_ | refine br_or ?_ | refine br_t (by assumption) ?_ | refine br_f (by assumption) ?_ | refine eq_i64 (by omega) ?_ | refine el_tn ?_) | ((with_reducible refine br_dt ?_ ?_); focus omega) | ((with_reducible refine br_df ?_ ?_); focus omega) | ((with_reducible apply br_dq hQz) <;> (try intro hsp hQz)) | ((with_reducible refine ck_x ?_ ?_); focus (first | omega | rfl | assumption | decide | (simp only [List.length_map, List.length_cons, List.length_nil]; omega) | exact hk)) | refine eq_of (hk) ?_ | (with_reducible first | refine eq_tn ?_ | refine eq_tn1 ?_ | refine eq_tn2 ?_ | refine eq_m1 ?_ | refine eq_m2 ?_ | refine eq_zm ?_ | refine eq_z ?_ | refine len_map ?_ | refine len_sl ?_ | refine len_nils ?_ | refine len_own' ?_ | refine len_isl ?_ | refine eq_u8 (by omega) ?_ | refine eq_u16 (by omega) ?_) | (with_reducible first | refine eq_rfl ?_ | refine ChkX.mk (by kernel_rfl) ?_ | refine code_d (by decide +kernel) ?_ | refine end_go rfl ?_) | refine dcx_pool hp rfl rfl rfl (by first | (simp [plain_int, plain_bool]; done) | fail) plain_int rfl rfl ?_ | refine dcx_ref hq rfl rfl rfl (by first | (simp [plain_int, plain_bool]; done) | fail) plain_int rfl rfl ?_ | refine cx_ref hq rfl rfl rfl (by decide) (by first | (simp [plain_int, plain_bool]; done) | fail) plain_int rfl ?_ | refine len_map ?_ | refine len_isl ?_ | refine el_of rfl rfl ?_ | refine del_own ?_ | refine del_own' rfl ?_ | refine as_go rfl ?_ | refine rd_go rfl ?_ | refine rg_end rfl ?_ | refine flat_ownX ?_ | refine EqLX.mk ?_ | ((with_reducible apply br_bq hQz) <;> (try intro hsp hQz)) | exact hQz.out)) <;> (try (conv => whnf))))) : p := h ⟨hq⟩
section
variable {n m : Nat} {V : Nat → Int} {Q : Nat → List Nat} {S : PS}
theorem dcx_pool {f : Nat} {avs : List AV} {fr fr' : Int} {V L N P A B C V' L' N' P' A' B' C' : Nat → Int} {a b c : Nat} {h : Hp} {r : AV} {K : AV → Up → List Nat → Prop} (hc : LocP f avs n m (poolB n m fr V L N P A B C) r (poolB n m fr' V' L' N' P' A' B' C'))
    (hl0 : lk h.l a = some (.cells [.sl b 0 n n 4, .sl c 0 m m 3, .int .i64 fr])) (hl1 : lk h.l b = some (.cells (cellsB n V L N P))) (hl2 : lk h.l c = some (.cells (endsB m A B C)))
    (ha : ∀ x ∈ avs, Plain x) (hr : Plain r) (hd : nodB [a, b, c] = true) (hnx' : [a, b, c].contains h.next = false)
    (hk : K r [(a, some (.cells [.sl b 0 n n 4, .sl c 0 m m 3, .int .i64 fr'])), (b, some (.cells (cellsB n V' L' N' P'))), (c, some (.cells (endsB m A' B' C')))] [a, b, c]) : DCallX Try.prog G0 f (.ptr a 0 :: avs) h K := by
  have hnx : h.next ∉ [a, b, c] := fun hm => by rw [List.contains_eq_mem, decide_eq_false_iff_not] at hnx'; exact hnx' hm
  have e0 : enter [a, b, c] a 0 := rfl
  have e1 : enter [a, b, c] b 1 := rfl
  have e2 : enter [a, b, c] c 2 := rfl
  have k0 : enterB [a, b, c] 0 a := rfl
  have k1 : enterB [a, b, c] 1 b := rfl
  have k2 : enterB [a, b, c] 2 c := rfl
  refine dcx_loc (l1 := [(a, .cells [.sl b 0 n n 4, .sl c 0 m m 3, .int .i64 fr']), (b, .cells (cellsB n V' L' N' P')), (c, .cells (endsB m A' B' C'))]) [a, b, c] hc.out plainG hd
    (.cons e0 hl0 ⟨rn_sl e1, rn_sl e2, rn_plain plain_int, trivial⟩ (.cons e1 hl1 (rnl_plain cells_plain) (.cons e2 hl2 (rnl_plain ends_plain) .nil)))
    hnx ?_ ?_ ⟨rn_ptr e0, rnl_plain ha⟩ (rn_plain hr)
    (.cons k0 ⟨rn_sl k1, rn_sl k2, rn_plain plain_int, trivial⟩ (.cons k1 (rnl_plain cells_plain) (.cons k2 (rnl_plain ends_plain) .nil))) hk
  · intro x hx
    simp only [lk]
    split
    · exact ⟨_, rfl⟩
    · split
      · exact ⟨_, rfl⟩
      · rename_i h1 h2
        rw [if_pos (by simp only [List.mem_cons, List.not_mem_nil, or_false] at hx; omega)]; exact ⟨_, rfl⟩
  · intro j x hx
    have : j < 3 := (List.getElem?_eq_some_iff.1 hx).1
    simp only [poolB, lk]
    split
    · exact ⟨_, rfl⟩
    · split
      · exact ⟨_, rfl⟩
      · rw [if_pos (by omega)]; exact ⟨_, rfl⟩
theorem dcx_ref {f : Nat} {avs : List AV} {V' : Nat → Int} {Q' : Nat → List Nat} {a b c : Nat} {h : Hp} {r : AV} {K : AV → Up → List Nat → Prop} (hc : LocR f avs n m (refB n m V Q) r (refB n m V' Q'))
    (hl0 : lk h.l a = some (.cells [.int .i64 (n : Nat), .sl b 0 m m 1, .sl c 0 n n 1])) (hl1 : lk h.l b = some (.cells (ofB m Q))) (hl2 : lk h.l c = some (.cells (memI n V)))
    (ha : ∀ x ∈ avs, Plain x) (hr : Plain r) (hd : nodB [a, b, c] = true) (hnx' : [a, b, c].contains h.next = false)
    (hk : K r [(a, some (.cells [.int .i64 (n : Nat), .sl b 0 m m 1, .sl c 0 n n 1])), (b, some (.cells (ofB m Q'))), (c, some (.cells (memI n V')))] [a, b, c]) : DCallX Try.prog G0 f (.ptr a 0 :: avs) h K := by
  have hnx : h.next ∉ [a, b, c] := fun hm => by rw [List.contains_eq_mem, decide_eq_false_iff_not] at hnx'; exact hnx' hm
  have e0 : enter [a, b, c] a 0 := rfl
  have e1 : enter [a, b, c] b 1 := rfl
  have e2 : enter [a, b, c] c 2 := rfl
  have k0 : enterB [a, b, c] 0 a := rfl
  have k1 : enterB [a, b, c] 1 b := rfl
  have k2 : enterB [a, b, c] 2 c := rfl
  refine dcx_loc (l1 := [(a, .cells [.int .i64 (n : Nat), .sl b 0 m m 1, .sl c 0 n n 1]), (b, .cells (ofB m Q')), (c, .cells (memI n V'))]) [a, b, c] hc.out plainG hd
    (.cons e0 hl0 ⟨rn_plain plain_int, rn_sl e1, rn_sl e2, trivial⟩ (.cons e1 hl1 (rnl_plain (of_plain _ _)) (.cons e2 hl2 (rnl_plain (memI_plain _ _)) .nil)))
    hnx ?_ ?_ ⟨rn_ptr e0, rnl_plain ha⟩ (rn_plain hr)
    (.cons k0 ⟨rn_plain plain_int, rn_sl k1, rn_sl k2, trivial⟩ (.cons k1 (rnl_plain (of_plain _ _)) (.cons k2 (rnl_plain (memI_plain _ _)) .nil))) hk
  · intro x hx
    simp only [lk]
    split
    · exact ⟨_, rfl⟩
    · split
      · exact ⟨_, rfl⟩
      · rename_i h1 h2
        rw [if_pos (by simp only [List.mem_cons, List.not_mem_nil, or_false] at hx; omega)]; exact ⟨_, rfl⟩
  · intro j x hx
    have : j < 3 := (List.getElem?_eq_some_iff.1 hx).1
    simp only [refB, lk]
    split
    · exact ⟨_, rfl⟩
    · split
      · exact ⟨_, rfl⟩
      · rw [if_pos (by omega)]; exact ⟨_, rfl⟩
theorem end_both {top : Bool} {h : Hp} {N0 : Nat} {x : AV} {r : AV} (hr : WkV Try.prog (rn []) h ⟨bothB n m V Q S, 6⟩ x r) (h0 : lk h.l 0 = some (.cells [.sl 1 0 n n 4, .sl 2 0 m m 3, .int .i64 (S.fr : Nat)])) (h1 : lk h.l 1 = some (.cells (cellsB n V S.L S.N S.P))) (h2 : lk h.l 2 = some (.cells (endsB m S.A S.B S.C)))
    (h3 : lk h.l 3 = some (.cells [.int .i64 (n : Nat), .sl 4 0 m m 1, .sl 5 0 n n 1])) (h4 : lk h.l 4 = some (.cells (ofB m Q))) (h5 : lk h.l 5 = some (.cells (memI n V))) {K : AV → Hp → Prop} (hK : K r ⟨bothB n m V Q S, 6⟩) (hN0 : N0 ≤ 6 := by decide) :
    EndX top Try.prog N0 h x K := by
  have hs : SubH (rn []) h ⟨bothB n m V Q S, 6⟩ := fun i o hi => by
    simp only [bothB, poolS, poolB, refC, List.cons_append, List.nil_append, lk] at hi
    show ∃ o', lk h.l i = some o'
    split at hi
    · rename_i e; subst e; exact ⟨_, h0⟩
    · split at hi
      · rename_i e; subst e; exact ⟨_, h1⟩
      · split at hi
        · rename_i e; subst e; exact ⟨_, h2⟩
        · split at hi
          · rename_i e; subst e; exact ⟨_, h3⟩
          · split at hi
            · rename_i e; subst e; exact ⟨_, h4⟩
            · split at hi
              · rename_i e; subst e; exact ⟨_, h5⟩
              · cases hi
  exact end_loc [] rfl hN0 (oneOf_of rfl) hr (wko_cells (show 0 < 6 by decide) h0 (wkl_cons (wk_sl rfl (show 1 < 6 by decide) rfl (Nat.le_refl _) (Nat.le_refl _)) (wkl_cons (wk_sl rfl (show 2 < 6 by decide) rfl (Nat.le_refl _) (Nat.le_refl _)) (wkl_cons (wk_int rfl) wkl_nil)))
    (wko_plain hs (show 1 < 6 by decide) h1 rfl cells_plain (wko_plain hs (show 2 < 6 by decide) h2 rfl ends_plain
    (wko_cells (show 3 < 6 by decide) h3 (wkl_cons (wk_int rfl) (wkl_cons (wk_sl rfl (show 4 < 6 by decide) rfl (Nat.le_refl _) (Nat.le_refl _)) (wkl_cons (wk_sl rfl (show 5 < 6 by decide) rfl (Nat.le_refl _) (Nat.le_refl _)) wkl_nil)))
    (wko_plain hs (show 4 < 6 by decide) h4 rfl (of_plain _ _) (wko_plain hs (show 5 < 6 by decide) h5 rfl (memI_plain _ _) wko_nil)))))) hK
set_option maxHeartbeats 4000000 in
theorem l_do (h : GoodP n m V Q S) (x : Cl) (hx : x.1 < 256) : ∃ V' Q' S', (GoodP n m V' Q' S' ∧ TrR n m V Q (opC (x.1 % 10)) x.2.1 x.2.2.1 x.2.2.2.1 x.2.2.2.2 V' Q') ∧ LocC Try.prog G0 28 [.ptr 0 0, .ptr 3 0, .agg (callA x)] (bothB n m V Q S) 6 fun r h1 => r = .bool true ∧ h1 = ⟨bothB n m V' Q' S', 6⟩ := by
  have hk : (x.1 : Int).tmod 10 = ((x.1 % 10 : Nat) : Int) := by rw [Int.tmod_eq_emod_of_nonneg (by omega)]; omega
  have hk9 : x.1 % 10 < 10 := Nat.mod_lt _ (by decide)
  obtain ⟨w, s, i, v, b⟩ := x
  dsimp only at hk hk9 hx
  generalize w % 10 = kd at hk hk9
  by_cases h3 : kd = 3
  · obtain ⟨V', Q', S', r, ⟨r1, r2, rfl⟩, ht, hg, hp, hq⟩ := b_after h s v
    refine ⟨V', Q', S', ⟨hg, (by rw [show opC kd = 3 by first | (subst h3; rfl) | (unfold opC; rw [if_pos (by omega)])]; exact ht _ _)⟩, loc_x hmix b28 rfl ?_⟩
    unfold c28 callA
    (refine wx_Ll ?_; repeat' (first | with_reducible refine And.intro ?_ ?_ | intro hsp))
    all_goals exact end_both (wk_bool (by simp)) rfl rfl rfl rfl rfl rfl ⟨rfl, rfl⟩
  by_cases h4 : kd = 4
  · obtain ⟨V', Q', S', r, ⟨r1, r2, rfl⟩, ht, hg, hp, hq⟩ := b_take h s
    refine ⟨V', Q', S', ⟨hg, (by rw [show opC kd = 4 by first | (subst h4; rfl) | (unfold opC; rw [if_pos (by omega)])]; exact ht _ _ _)⟩, loc_x hmix b28 rfl ?_⟩
    unfold c28 callA
    (refine wx_Ll ?_; repeat' (first | with_reducible refine And.intro ?_ ?_ | intro hsp))
    all_goals exact end_both (wk_bool (by simp)) rfl rfl rfl rfl rfl rfl ⟨rfl, rfl⟩
  by_cases h5 : kd = 5
  · obtain ⟨V', Q', S', r, ⟨r1, rfl⟩, ht, hg, hp, hq⟩ := b_move h s i b
    refine ⟨V', Q', S', ⟨hg, (by rw [show opC kd = 5 by first | (subst h5; rfl) | (unfold opC; rw [if_pos (by omega)])]; exact ht _)⟩, loc_x hmix b28 rfl ?_⟩
    unfold c28 callA
    (refine wx_Lln ?_; repeat' (first | with_reducible refine And.intro ?_ ?_ | intro hsp))
    all_goals exact end_both (wk_bool (by simp)) rfl rfl rfl rfl rfl rfl ⟨rfl, rfl⟩
  by_cases h6 : kd = 6
  · obtain ⟨V', Q', S', r, ⟨r1, rfl⟩, ht, hg, hp, hq⟩ := b_put h s v
    refine ⟨V', Q', S', ⟨hg, (by rw [show opC kd = 6 by first | (subst h6; rfl) | (unfold opC; rw [if_pos (by omega)])]; exact ht _ _)⟩, loc_x hmix b28 rfl ?_⟩
    unfold c28 callA
    (refine wx_Lln ?_; repeat' (first | with_reducible refine And.intro ?_ ?_ | intro hsp))
    all_goals exact end_both (wk_bool (by simp)) rfl rfl rfl rfl rfl rfl ⟨rfl, rfl⟩
  by_cases h7 : kd = 7
  · obtain ⟨r, ⟨r1, r2, rfl⟩, hp, hq⟩ := b_get h s
    obtain ⟨r', ⟨r3, r4, rfl⟩, hp', hq'⟩ := b_where h s
    have hg : GoodP n m V Q S ∧ TrR n m V Q (opC kd) s i v b V Q := ⟨h, .look (by subst h7; rfl)⟩
    refine ⟨V, Q, S, hg, loc_x hmix b28 rfl ?_⟩
    unfold c28 callA
    (refine wx_Ll ?_; repeat' (first | with_reducible refine And.intro ?_ ?_ | intro hsp))
    all_goals exact end_both (wk_bool (by simp)) rfl rfl rfl rfl rfl rfl ⟨rfl, rfl⟩
  by_cases h8 : kd = 8
  · obtain ⟨r, ⟨r1, r2, rfl⟩, hp, hq⟩ := b_step h s b
    have hg : GoodP n m V Q S ∧ TrR n m V Q (opC kd) s i v b V Q := ⟨h, .look (by subst h8; rfl)⟩
    refine ⟨V, Q, S, hg, loc_x hmix b28 rfl ?_⟩
    unfold c28 callA
    (refine wx_Ll ?_; repeat' (first | with_reducible refine And.intro ?_ ?_ | intro hsp))
    all_goals exact end_both (wk_bool (by simp)) rfl rfl rfl rfl rfl rfl ⟨rfl, rfl⟩
  by_cases h9 : kd = 9
  · obtain ⟨r, ⟨r1, r2, rfl⟩, hp, hq⟩ := b_end h i b
    obtain ⟨r', ⟨r3, r4, rfl⟩, hp', hq'⟩ := b_len h i
    have hg : GoodP n m V Q S ∧ TrR n m V Q (opC kd) s i v b V Q := ⟨h, .look (by subst h9; rfl)⟩
    refine ⟨V, Q, S, hg, loc_x hmix b28 rfl ?_⟩
    unfold c28 callA
    (refine wx_Ll ?_; repeat' (first | with_reducible refine And.intro ?_ ?_ | intro hsp))
    all_goals exact end_both (wk_bool (by simp)) rfl rfl rfl rfl rfl rfl ⟨rfl, rfl⟩
  obtain ⟨V', Q', S', r, ⟨r1, r2, rfl⟩, ht, hg, hp, hq⟩ := b_push h i v b
  refine ⟨V', Q', S', ⟨hg, (by rw [show opC kd = 0 by first | (unfold opC; rw [if_pos (by omega)])]; exact ht _)⟩, loc_x hmix b28 rfl ?_⟩
  unfold c28 callA
  (refine wx_Ll ?_; repeat' (first | with_reducible refine And.intro ?_ ?_ | intro hsp))
  all_goals exact end_both (wk_bool (by simp)) rfl rfl rfl rfl rfl rfl ⟨rfl, rfl⟩
end
end Go.Proofs.Ytkjimnhmiojcdaa
