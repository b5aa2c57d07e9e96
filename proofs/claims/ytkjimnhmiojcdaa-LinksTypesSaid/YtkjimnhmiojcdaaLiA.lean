/-
  Pools of slots: their memory, as blocks of numbers.
  The calls of a pool that look: used, has, Get, Where, Step, End, Len.
  What changes a pool: tie, untie, least.
-/
import Derived.Test.YtkjimnhmiojcdaaAmWv
import Derived.Test.YtkjimnhmiojcdaaCode
import Derived.Test.YtkjimnhmiojcdaaAmWt
set_option linter.unusedSimpArgs false
set_option linter.unusedVariables false
namespace Go.Pol
open Go.Am
def updI (f : Nat → Int) (i : Nat) (v : Int) : Nat → Int := fun j => if j = i then v else f j
theorem updI_at (f : Nat → Int) (i : Nat) (v : Int) : updI f i v i = v := by simp [updI]
theorem updI_ne {f : Nat → Int} {i j : Nat} {v : Int} (h : j ≠ i) : updI f i v j = f j := by simp [updI, h]
def memI (n : Nat) (F : Nat → Int) : List AV := (List.range n).map fun k => .int .i64 (F k)
theorem memI_len (n : Nat) (F : Nat → Int) : (memI n F).length = n := by simp [memI]
theorem memI_get {n : Nat} {F : Nat → Int} {i : Nat} (h : i < n) : (memI n F)[i]? = some (.int .i64 (F i)) := by simp [memI, h]
theorem memI_set (n : Nat) (F : Nat → Int) (i : Nat) (v : Int) : (memI n F).set i (.int .i64 v) = memI n (updI F i v) := by
  refine List.ext_getElem (by simp [memI]) fun j h1 h2 => ?_
  simp only [memI, List.getElem_set, List.getElem_map, List.getElem_range, updI]
  by_cases e : i = j
  · subst e; simp
  · rw [if_neg e, if_neg (fun h => e h.symm)]
theorem memI_plain (n : Nat) (F : Nat → Int) : ∀ x ∈ memI n F, Plain x := fun x hx => by obtain ⟨p, _, rfl⟩ := List.mem_map.1 hx; exact plain_int
/-- The cells of slots: value, list, next, prev. -/
def sel4 (V L N P : Nat → Int) (k : Nat) : Int := if k % 4 = 0 then V (k / 4) else if k % 4 = 1 then L (k / 4) else if k % 4 = 2 then N (k / 4) else P (k / 4)
def cellsB (n : Nat) (V L N P : Nat → Int) : List AV := memI (n * 4) (sel4 V L N P)
/-- The lists: first, last, how many. -/
def sel3 (A B C : Nat → Int) (k : Nat) : Int := if k % 3 = 0 then A (k / 3) else if k % 3 = 1 then B (k / 3) else C (k / 3)
def endsB (m : Nat) (A B C : Nat → Int) : List AV := memI (m * 3) (sel3 A B C)
section
variable {n m : Nat} {V L N P A B C : Nat → Int} {s : Nat} {v : Int}
theorem cells_len : (cellsB n V L N P).length = n * 4 := memI_len ..
theorem ends_len : (endsB m A B C).length = m * 3 := memI_len ..
theorem cells_plain : ∀ x ∈ cellsB n V L N P, Plain x := memI_plain _ _
theorem ends_plain : ∀ x ∈ endsB m A B C, Plain x := memI_plain _ _
theorem sel4_0 : sel4 V L N P (s * 4) = V s := by unfold sel4; rw [if_pos (by omega), show s * 4 / 4 = s by omega]
theorem sel4_1 : sel4 V L N P (s * 4 + 1) = L s := by unfold sel4; rw [if_neg (by omega), if_pos (by omega), show (s * 4 + 1) / 4 = s by omega]
theorem sel4_2 : sel4 V L N P (s * 4 + 2) = N s := by unfold sel4; rw [if_neg (by omega), if_neg (by omega), if_pos (by omega), show (s * 4 + 2) / 4 = s by omega]
theorem sel4_3 : sel4 V L N P (s * 4 + 3) = P s := by unfold sel4; rw [if_neg (by omega), if_neg (by omega), if_neg (by omega), show (s * 4 + 3) / 4 = s by omega]
theorem sel3_0 : sel3 A B C (s * 3) = A s := by unfold sel3; rw [if_pos (by omega), show s * 3 / 3 = s by omega]
theorem sel3_1 : sel3 A B C (s * 3 + 1) = B s := by unfold sel3; rw [if_neg (by omega), if_pos (by omega), show (s * 3 + 1) / 3 = s by omega]
theorem sel3_2 : sel3 A B C (s * 3 + 2) = C s := by unfold sel3; rw [if_neg (by omega), if_neg (by omega), show (s * 3 + 2) / 3 = s by omega]
theorem gc0 (h : s < n) : (cellsB n V L N P)[s * 4]? = some (.int .i64 (V s)) := by rw [cellsB, memI_get (by omega), sel4_0]
theorem gc1 (h : s < n) : (cellsB n V L N P)[s * 4 + 1]? = some (.int .i64 (L s)) := by rw [cellsB, memI_get (by omega), sel4_1]
theorem gc2 (h : s < n) : (cellsB n V L N P)[s * 4 + 2]? = some (.int .i64 (N s)) := by rw [cellsB, memI_get (by omega), sel4_2]
theorem gc3 (h : s < n) : (cellsB n V L N P)[s * 4 + 3]? = some (.int .i64 (P s)) := by rw [cellsB, memI_get (by omega), sel4_3]
theorem ge0 (h : s < m) : (endsB m A B C)[s * 3]? = some (.int .i64 (A s)) := by rw [endsB, memI_get (by omega), sel3_0]
theorem ge1 (h : s < m) : (endsB m A B C)[s * 3 + 1]? = some (.int .i64 (B s)) := by rw [endsB, memI_get (by omega), sel3_1]
theorem ge2 (h : s < m) : (endsB m A B C)[s * 3 + 2]? = some (.int .i64 (C s)) := by rw [endsB, memI_get (by omega), sel3_2]
theorem sc0 : (cellsB n V L N P).set (s * 4) (.int .i64 v) = cellsB n (updI V s v) L N P := by
  rw [cellsB, memI_set, cellsB]; congr 1; funext k; simp only [updI, sel4]
  by_cases h : k = s * 4
  · subst h; rw [if_pos rfl, if_pos (by omega), if_pos (by omega)]
  · rw [if_neg h]
    by_cases h0 : k % 4 = 0
    · rw [if_pos h0, if_pos h0, if_neg (by omega)]
    · rw [if_neg h0, if_neg h0]
theorem sc1 : (cellsB n V L N P).set (s * 4 + 1) (.int .i64 v) = cellsB n V (updI L s v) N P := by
  rw [cellsB, memI_set, cellsB]; congr 1; funext k; simp only [updI, sel4]
  by_cases h : k = s * 4 + 1
  · subst h; rw [if_pos rfl, if_neg (by omega), if_pos (by omega), if_pos (by omega)]
  · rw [if_neg h]
    by_cases h0 : k % 4 = 1
    · rw [if_neg (by omega), if_pos h0, if_neg (by omega), if_pos h0, if_neg (by omega)]
    · rw [if_neg h0, if_neg h0]
theorem sc2 : (cellsB n V L N P).set (s * 4 + 2) (.int .i64 v) = cellsB n V L (updI N s v) P := by
  rw [cellsB, memI_set, cellsB]; congr 1; funext k; simp only [updI, sel4]
  by_cases h : k = s * 4 + 2
  · subst h; rw [if_pos rfl, if_neg (by omega), if_neg (by omega), if_pos (by omega), if_pos (by omega)]
  · rw [if_neg h]
    by_cases h0 : k % 4 = 2
    · rw [if_neg (by omega), if_neg (by omega), if_pos h0, if_neg (by omega), if_neg (by omega), if_pos h0, if_neg (by omega)]
    · rw [if_neg h0, if_neg h0]
theorem sc3 : (cellsB n V L N P).set (s * 4 + 3) (.int .i64 v) = cellsB n V L N (updI P s v) := by
  rw [cellsB, memI_set, cellsB]; congr 1; funext k; simp only [updI, sel4]
  by_cases h : k = s * 4 + 3
  · subst h; rw [if_pos rfl, if_neg (by omega), if_neg (by omega), if_neg (by omega), if_pos (by omega)]
  · rw [if_neg h]
    by_cases h0 : k % 4 = 3
    · rw [if_neg (by omega), if_neg (by omega), if_neg (by omega), if_neg (by omega), if_neg (by omega), if_neg (by omega), if_neg (by omega)]
    · by_cases h1 : k % 4 = 0
      · rw [if_pos h1, if_pos h1]
      · by_cases h2 : k % 4 = 1
        · rw [if_neg h1, if_pos h2, if_neg h1, if_pos h2]
        · rw [if_neg h1, if_neg h2, if_pos (by omega), if_neg h1, if_neg h2, if_pos (by omega)]
theorem se0 : (endsB m A B C).set (s * 3) (.int .i64 v) = endsB m (updI A s v) B C := by
  rw [endsB, memI_set, endsB]; congr 1; funext k; simp only [updI, sel3]
  by_cases h : k = s * 3
  · subst h; rw [if_pos rfl, if_pos (by omega), if_pos (by omega)]
  · rw [if_neg h]
    by_cases h0 : k % 3 = 0
    · rw [if_pos h0, if_pos h0, if_neg (by omega)]
    · rw [if_neg h0, if_neg h0]
theorem se1 : (endsB m A B C).set (s * 3 + 1) (.int .i64 v) = endsB m A (updI B s v) C := by
  rw [endsB, memI_set, endsB]; congr 1; funext k; simp only [updI, sel3]
  by_cases h : k = s * 3 + 1
  · subst h; rw [if_pos rfl, if_neg (by omega), if_pos (by omega), if_pos (by omega)]
  · rw [if_neg h]
    by_cases h0 : k % 3 = 1
    · rw [if_neg (by omega), if_pos h0, if_neg (by omega), if_pos h0, if_neg (by omega)]
    · rw [if_neg h0, if_neg h0]
theorem se2 : (endsB m A B C).set (s * 3 + 2) (.int .i64 v) = endsB m A B (updI C s v) := by
  rw [endsB, memI_set, endsB]; congr 1; funext k; simp only [updI, sel3]
  by_cases h : k = s * 3 + 2
  · subst h; rw [if_pos rfl, if_neg (by omega), if_neg (by omega), if_pos (by omega)]
  · rw [if_neg h]
    by_cases h0 : k % 3 = 2
    · rw [if_neg (by omega), if_neg (by omega), if_neg (by omega), if_neg (by omega), if_neg (by omega)]
    · by_cases h1 : k % 3 = 0
      · rw [if_pos h1, if_pos h1]
      · rw [if_neg h1, if_pos (by omega), if_neg h1, if_pos (by omega)]
end
/-- A pool's three blocks: itself, the slots, the lists. -/
def poolB (n m : Nat) (fr : Int) (V L N P A B C : Nat → Int) : List (Nat × AObj) := [(0, .cells [.sl 1 0 n n 4, .sl 2 0 m m 3, .int .i64 fr]), (1, .cells (cellsB n V L N P)), (2, .cells (endsB m A B C))]
end Go.Pol
namespace Go.Proofs.Ytkjimnhmiojcdaa
open Go Go.Am Go.Pol
theorem hmix : Try.prog.follows .mixedOrders = true := by kernel_rfl
def G0 : Gl := fun _ => none
theorem plainG : PlainG G0 := fun n cs h => by cases h
end Go.Proofs.Ytkjimnhmiojcdaa
namespace Go.Proofs.Ytkjimnhmiojcdaa
open Go Go.Am Go.Pol
theorem wx_Lb {p q : Prop} (hq : q) (h : HidP q → p := by (intro hQz; ((repeat' ((try (conv => whnf)); first | (with_reducible first | refine run_cons ?_ | refine runq_cons ?_ | refine code_seq ?_ | refine code_reg ?_ | refine code_cond ?_ | refine run_nil ?_ | refine runq_nil ?_ | refine rund_op rfl ?_ | refine rund_nil ?_ | refine code_block ?_ | refine code_skip ?_ | refine code_exit ?_ | refine code_ret ?_ | refine code_range ?_ | refine rund_fast (by decide +kernel) ?_ | refine rund_slow (by decide +kernel) ?_ | refine br_tt ?_ | refine br_ff ?_ | refine br_n ?_ | refine br_and ?_ | refine br_or ?_ | refine br_t (by assumption) ?_ | refine br_f (by assumption) ?_ | refine eq_i64 (by omega) ?_ | refine el_tn ?_) | ((with_reducible refine br_dt ?_ ?_); focus omega) | ((with_reducible refine br_df ?_ ?_); focus omega) | ((with_reducible apply br_dq hQz) <;> (try intro hsp hQz)) | ((with_reducible refine ck_x ?_ ?_); focus (first | omega | rfl | assumption | decide | (simp only [List.length_map, List.length_cons, List.length_nil]; omega))) | (with_reducible first | refine eq_tn ?_ | refine eq_tn1 ?_ | refine eq_tn2 ?_ | refine eq_m1 ?_ | refine eq_m2 ?_ | refine eq_zm ?_ | refine eq_z ?_ | refine len_map ?_ | refine len_sl ?_ | refine len_nils ?_ | refine len_own' ?_ | refine len_isl ?_ | refine eq_u8 (by omega) ?_ | refine eq_u16 (by omega) ?_) | refine nthK_of (h0) ?_ | refine nthK_of (h1) ?_ | refine set1K_of (by first | omega | simp | (simp only [arr_len]; omega)) (q0) ?_ | refine nthK_of (h2) ?_ | refine nthK_of (h3) ?_ | (with_reducible first | refine eq_rfl ?_ | refine ChkX.mk (by kernel_rfl) ?_ | refine code_q rfl ?_ | refine code_d (by decide +kernel) ?_ | refine end_go rfl ?_) | refine cx_pool hu rfl rfl rfl (by decide) (by first | (simp [plain_int]; done) | fail) plain_int rfl ?_ | (refine cx_in hmix b43 rfl ?_; unfold c43) | (refine cx_in hmix b76 rfl ?_; unfold c76) | refine len_map ?_ | refine len_isl ?_ | refine el_of rfl rfl ?_ | refine del_own ?_ | refine del_own' rfl ?_ | refine as_go rfl ?_ | refine rd_go rfl ?_ | refine rg_end rfl ?_ | refine flat_ownX ?_ | refine EqLX.mk ?_ | ((with_reducible apply br_bq hQz) <;> (try intro hsp hQz)) | exact hQz.out)) <;> (try (conv => whnf))))) : p := h ⟨hq⟩
section
variable {n m : Nat} {fr : Int} {V L N P A B C : Nat → Int}
/-- A call on a pool: over its three blocks alone. -/
structure LocP (f : Nat) (avs : List AV) (n m : Nat) (l0 : List (Nat × AObj)) (r : AV) (lr : List (Nat × AObj)) : Prop where
  out : LocC Try.prog G0 f (.ptr 0 0 :: avs) l0 3 fun x h1 => x = r ∧ h1 = ⟨lr, 3⟩
theorem end_pool {top : Bool} {h : Hp} {N0 : Nat} {x r : AV} {fr' : Int} (hr : WkV Try.prog (rn []) h ⟨poolB n m fr V L N P A B C, 3⟩ x r) (h0 : lk h.l 0 = some (.cells [.sl 1 0 n n 4, .sl 2 0 m m 3, .int .i64 fr'])) (h1 : lk h.l 1 = some (.cells (cellsB n V L N P))) (h2 : lk h.l 2 = some (.cells (endsB m A B C))) (e : fr' = fr := by rfl) (hN0 : N0 ≤ 3 := by decide) :
    EndX top Try.prog N0 h x (fun r' h' => r' = r ∧ h' = ⟨poolB n m fr V L N P A B C, 3⟩) := by
  subst e
  have hs : SubH (rn []) h ⟨poolB n m fr' V L N P A B C, 3⟩ := fun i o hi => by
    simp only [poolB, lk] at hi
    show ∃ o', lk h.l i = some o'
    split at hi
    · rename_i e; subst e; exact ⟨_, h0⟩
    · split at hi
      · rename_i e; subst e; exact ⟨_, h1⟩
      · split at hi
        · rename_i e; subst e; exact ⟨_, h2⟩
        · cases hi
  exact end_loc [] rfl hN0 (oneOf_of rfl) hr (wko_cells (show 0 < 3 by decide) h0 (wkl_cons (wk_sl rfl (show 1 < 3 by decide) rfl (Nat.le_refl _) (Nat.le_refl _)) (wkl_cons (wk_sl rfl (show 2 < 3 by decide) rfl (Nat.le_refl _) (Nat.le_refl _)) (wkl_cons (wk_int rfl) wkl_nil)))
    (wko_plain hs (show 1 < 3 by decide) h1 rfl cells_plain (wko_plain hs (show 2 < 3 by decide) h2 rfl ends_plain wko_nil))) ⟨rfl, rfl⟩
theorem wk_ints {σ : Nat → Nat} {h h' : Hp} {a b a' b' : Int} (e1 : a = a') (e2 : b = b') : WkV Try.prog σ h h' (.tup [.int .i64 a, .int .i64 b]) (.tup [.int .i64 a', .int .i64 b']) := wk_tup ⟨wk_int e1, wk_int e2, trivial⟩
theorem cx_pool {f : Nat} {avs : List AV} {fr' : Int} {V' L' N' P' A' B' C' : Nat → Int} {a b c nx : Nat} {l : List (Nat × AObj)} {r : AV} {K : AV → Hp → Prop} (hc : LocP f avs n m (poolB n m fr V L N P A B C) r (poolB n m fr' V' L' N' P' A' B' C'))
    (hl0 : lk l a = some (.cells [.sl b 0 n n 4, .sl c 0 m m 3, .int .i64 fr])) (hl1 : lk l b = some (.cells (cellsB n V L N P))) (hl2 : lk l c = some (.cells (endsB m A B C))) (hlt : a < nx ∧ b < nx ∧ c < nx)
    (ha : ∀ x ∈ avs, Plain x) (hr : Plain r) (hd : nodB [a, b, c] = true)
    (hk : filtK [a, b, c] l fun l2 => K r ⟨[(a, .cells [.sl b 0 n n 4, .sl c 0 m m 3, .int .i64 fr']), (b, .cells (cellsB n V' L' N' P')), (c, .cells (endsB m A' B' C'))] ++ l2, nx⟩) : CallX Try.prog G0 (.fn f [] []) (.ptr a 0 :: avs) ⟨l, nx⟩ K := by
  have e0 : enter [a, b, c] a 0 := rfl
  have e1 : enter [a, b, c] b 1 := rfl
  have e2 : enter [a, b, c] c 2 := rfl
  have k0 : back [a, b, c] nx 0 a := rfl
  have k1 : back [a, b, c] nx 1 b := rfl
  have k2 : back [a, b, c] nx 2 c := rfl
  refine cx_loc (l1 := [(a, .cells [.sl b 0 n n 4, .sl c 0 m m 3, .int .i64 fr']), (b, .cells (cellsB n V' L' N' P')), (c, .cells (endsB m A' B' C'))]) [a, b, c] hc.out plainG hd
    (.cons e0 hl0 ⟨rn_sl e1, rn_sl e2, rn_plain plain_int, trivial⟩ (.cons e1 hl1 (rnl_plain cells_plain) (.cons e2 hl2 (rnl_plain ends_plain) .nil)))
    ?_ (by intro x hx; simp only [List.mem_cons, List.not_mem_nil, or_false] at hx; omega) (rn_plain hr)
    (.cons k0 ⟨rn_sl k1, rn_sl k2, rn_plain plain_int, trivial⟩ (.cons k1 (rnl_plain cells_plain) (.cons k2 (rnl_plain ends_plain) .nil))) hk
  simp only [List.nil_append, List.append_nil]
  exact ⟨rn_ptr e0, rnl_plain ha⟩
theorem l_used (s : Nat) (hs : s < n) (hl : L s ≠ -1) : LocP 50 [.int .i64 (s : Nat)] n m (poolB n m fr V L N P A B C) (.int .i64 0) (poolB n m fr V L N P A B C) := by
  refine LocP.mk (loc_x hmix b50 rfl ?_)
  unfold c50
  have h1 := gc1 (V := V) (L := L) (N := N) (P := P) hs
  (refine wx_Lb ?_; repeat' (first | with_reducible refine And.intro ?_ ?_ | intro hsp))
  exact end_pool (wk_int rfl) rfl rfl rfl
theorem l_unused (s : Int) (hn : 0 < n) (h : ∀ k : Nat, s = (k : Int) → k < n → L k = -1) : LocP 50 [.int .i64 s] n m (poolB n m fr V L N P A B C) (.int .i64 4) (poolB n m fr V L N P A B C) := by
  refine LocP.mk (loc_x hmix b50 rfl ?_)
  unfold c50
  by_cases hb : s < 0 ∨ (n : Int) ≤ s
  · (refine wx_Lb ?_; repeat' (first | with_reducible refine And.intro ?_ ?_ | intro hsp))
    all_goals exact end_pool (wk_int rfl) rfl rfl rfl
  · obtain ⟨k, rfl⟩ := Int.eq_ofNat_of_zero_le (show 0 ≤ s by omega)
    have hk : k < n := by omega
    have h2 := h k rfl hk
    have h1 := gc1 (V := V) (L := L) (N := N) (P := P) hk
    (refine wx_Lb ?_; repeat' (first | with_reducible refine And.intro ?_ ?_ | intro hsp))
    all_goals exact end_pool (wk_int rfl) rfl rfl rfl
theorem l_has (i : Nat) (hn : 0 < n) (hi : i < m) : LocP 47 [.int .i64 (i : Nat)] n m (poolB n m fr V L N P A B C) (.int .i64 0) (poolB n m fr V L N P A B C) := by
  refine LocP.mk (loc_x hmix b47 rfl ?_)
  unfold c47
  (refine wx_Lb ?_; repeat' (first | with_reducible refine And.intro ?_ ?_ | intro hsp))
  all_goals exact end_pool (wk_int rfl) rfl rfl rfl
theorem l_hasnt (i : Int) (hn : 0 < n) (hi : i < 0 ∨ (m : Int) ≤ i) : LocP 47 [.int .i64 i] n m (poolB n m fr V L N P A B C) (.int .i64 7) (poolB n m fr V L N P A B C) := by
  refine LocP.mk (loc_x hmix b47 rfl ?_)
  unfold c47
  (refine wx_Lb ?_; repeat' (first | with_reducible refine And.intro ?_ ?_ | intro hsp))
  all_goals exact end_pool (wk_int rfl) rfl rfl rfl
theorem l_get (s : Nat) (hs : s < n) (hl : L s ≠ -1) : LocP 59 [.int .i64 (s : Nat)] n m (poolB n m fr V L N P A B C) (.tup [.int .i64 (V s), .int .i64 0]) (poolB n m fr V L N P A B C) := by
  refine LocP.mk (loc_x hmix b59 rfl ?_)
  unfold c59
  have h0 := gc0 (V := V) (L := L) (N := N) (P := P) hs
  have hu := l_used (m := m) (fr := fr) (V := V) (N := N) (P := P) (A := A) (B := B) (C := C) s hs hl
  (refine wx_Lb ?_; repeat' (first | with_reducible refine And.intro ?_ ?_ | intro hsp))
  exact end_pool (wk_ints rfl rfl) rfl rfl rfl
theorem l_get_no (s : Int) (hn : 0 < n) (h : ∀ k : Nat, s = (k : Int) → k < n → L k = -1) : LocP 59 [.int .i64 s] n m (poolB n m fr V L N P A B C) (.tup [.int .i64 0, .int .i64 4]) (poolB n m fr V L N P A B C) := by
  refine LocP.mk (loc_x hmix b59 rfl ?_)
  unfold c59
  have hu := l_unused (m := m) (fr := fr) (V := V) (N := N) (P := P) (A := A) (B := B) (C := C) s hn h
  (refine wx_Lb ?_; repeat' (first | with_reducible refine And.intro ?_ ?_ | intro hsp))
  all_goals exact end_pool (wk_ints rfl rfl) rfl rfl rfl
theorem l_where (s : Nat) (hs : s < n) (hl : L s ≠ -1) : LocP 61 [.int .i64 (s : Nat)] n m (poolB n m fr V L N P A B C) (.tup [.int .i64 (L s), .int .i64 0]) (poolB n m fr V L N P A B C) := by
  refine LocP.mk (loc_x hmix b61 rfl ?_)
  unfold c61
  have h1 := gc1 (V := V) (L := L) (N := N) (P := P) hs
  have hu := l_used (m := m) (fr := fr) (V := V) (N := N) (P := P) (A := A) (B := B) (C := C) s hs hl
  (refine wx_Lb ?_; repeat' (first | with_reducible refine And.intro ?_ ?_ | intro hsp))
  all_goals exact end_pool (wk_ints rfl rfl) rfl rfl rfl
theorem l_where_no (s : Int) (hn : 0 < n) (h : ∀ k : Nat, s = (k : Int) → k < n → L k = -1) : LocP 61 [.int .i64 s] n m (poolB n m fr V L N P A B C) (.tup [.int .i64 0, .int .i64 4]) (poolB n m fr V L N P A B C) := by
  refine LocP.mk (loc_x hmix b61 rfl ?_)
  unfold c61
  have hu := l_unused (m := m) (fr := fr) (V := V) (N := N) (P := P) (A := A) (B := B) (C := C) s hn h
  (refine wx_Lb ?_; repeat' (first | with_reducible refine And.intro ?_ ?_ | intro hsp))
  all_goals exact end_pool (wk_ints rfl rfl) rfl rfl rfl
theorem l_put (s : Nat) (v : Int) (hs : s < n) (hl : L s ≠ -1) : LocP 57 [.int .i64 (s : Nat), .int .i64 v] n m (poolB n m fr V L N P A B C) (.int .i64 0) (poolB n m fr (updI V s v) L N P A B C) := by
  refine LocP.mk (loc_x hmix b57 rfl ?_)
  unfold c57
  have h0 := gc0 (V := V) (L := L) (N := N) (P := P) hs
  have q0 := sc0 (n := n) (V := V) (L := L) (N := N) (P := P) (s := s) (v := v)
  have hcl := cells_len (n := n) (V := V) (L := L) (N := N) (P := P)
  have hu := l_used (m := m) (fr := fr) (V := V) (N := N) (P := P) (A := A) (B := B) (C := C) s hs hl
  (refine wx_Lb ?_; repeat' (first | with_reducible refine And.intro ?_ ?_ | intro hsp))
  all_goals exact end_pool (wk_int rfl) rfl rfl rfl
theorem l_put_no (s : Int) (v : Int) (hn : 0 < n) (h : ∀ k : Nat, s = (k : Int) → k < n → L k = -1) : LocP 57 [.int .i64 s, .int .i64 v] n m (poolB n m fr V L N P A B C) (.int .i64 4) (poolB n m fr V L N P A B C) := by
  refine LocP.mk (loc_x hmix b57 rfl ?_)
  unfold c57
  have hu := l_unused (m := m) (fr := fr) (V := V) (N := N) (P := P) (A := A) (B := B) (C := C) s hn h
  (refine wx_Lb ?_; repeat' (first | with_reducible refine And.intro ?_ ?_ | intro hsp))
  all_goals exact end_pool (wk_int rfl) rfl rfl rfl
theorem l_step (s : Nat) (b : Bool) (hs : s < n) (hl : L s ≠ -1) : LocP 63 [.int .i64 (s : Nat), .bool b] n m (poolB n m fr V L N P A B C) (.tup [.int .i64 (if (if b = true then P s else N s) = -1 then 0 else (if b = true then P s else N s)), .int .i64 (if (if b = true then P s else N s) = -1 then 9 else 0)]) (poolB n m fr V L N P A B C) := by
  refine LocP.mk (loc_x hmix b63 rfl ?_)
  unfold c63
  have h2 := gc2 (V := V) (L := L) (N := N) (P := P) hs
  have h3 := gc3 (V := V) (L := L) (N := N) (P := P) hs
  have hu := l_used (m := m) (fr := fr) (V := V) (N := N) (P := P) (A := A) (B := B) (C := C) s hs hl
  cases b
  · by_cases hq : N s = -1
    · (refine wx_Lb ?_; repeat' (first | with_reducible refine And.intro ?_ ?_ | intro hsp))
      all_goals exact end_pool (wk_ints (by simp [hq]) (by simp [hq])) rfl rfl rfl
    · (refine wx_Lb ?_; repeat' (first | with_reducible refine And.intro ?_ ?_ | intro hsp))
      all_goals exact end_pool (wk_ints (by simp [hq]) (by simp [hq])) rfl rfl rfl
  · by_cases hq : P s = -1
    · (refine wx_Lb ?_; repeat' (first | with_reducible refine And.intro ?_ ?_ | intro hsp))
      all_goals exact end_pool (wk_ints (by simp [hq]) (by simp [hq])) rfl rfl rfl
    · (refine wx_Lb ?_; repeat' (first | with_reducible refine And.intro ?_ ?_ | intro hsp))
      all_goals exact end_pool (wk_ints (by simp [hq]) (by simp [hq])) rfl rfl rfl
theorem l_step_no (s : Int) (b : Bool) (hn : 0 < n) (h : ∀ k : Nat, s = (k : Int) → k < n → L k = -1) : LocP 63 [.int .i64 s, .bool b] n m (poolB n m fr V L N P A B C) (.tup [.int .i64 0, .int .i64 4]) (poolB n m fr V L N P A B C) := by
  refine LocP.mk (loc_x hmix b63 rfl ?_)
  unfold c63
  have hu := l_unused (m := m) (fr := fr) (V := V) (N := N) (P := P) (A := A) (B := B) (C := C) s hn h
  (refine wx_Lb ?_; repeat' (first | with_reducible refine And.intro ?_ ?_ | intro hsp))
  all_goals exact end_pool (wk_ints rfl rfl) rfl rfl rfl
theorem l_len (i : Nat) (hn : 0 < n) (hi : i < m) : LocP 67 [.int .i64 (i : Nat)] n m (poolB n m fr V L N P A B C) (.tup [.int .i64 (C i), .int .i64 0]) (poolB n m fr V L N P A B C) := by
  refine LocP.mk (loc_x hmix b67 rfl ?_)
  unfold c67
  have h2 := ge2 (A := A) (B := B) (C := C) hi
  have hu := l_has (fr := fr) (V := V) (L := L) (N := N) (P := P) (A := A) (B := B) (C := C) i hn hi
  (refine wx_Lb ?_; repeat' (first | with_reducible refine And.intro ?_ ?_ | intro hsp))
  all_goals exact end_pool (wk_ints rfl rfl) rfl rfl rfl
theorem l_len_no (i : Int) (hn : 0 < n) (hi : i < 0 ∨ (m : Int) ≤ i) : LocP 67 [.int .i64 i] n m (poolB n m fr V L N P A B C) (.tup [.int .i64 0, .int .i64 7]) (poolB n m fr V L N P A B C) := by
  refine LocP.mk (loc_x hmix b67 rfl ?_)
  unfold c67
  have hu := l_hasnt (fr := fr) (V := V) (L := L) (N := N) (P := P) (A := A) (B := B) (C := C) i hn hi
  (refine wx_Lb ?_; repeat' (first | with_reducible refine And.intro ?_ ?_ | intro hsp))
  all_goals exact end_pool (wk_ints rfl rfl) rfl rfl rfl
theorem l_end (i : Nat) (b : Bool) (hn : 0 < n) (hi : i < m) : LocP 65 [.int .i64 (i : Nat), .bool b] n m (poolB n m fr V L N P A B C) (.tup [.int .i64 (if (if b = true then A i else B i) = -1 then 0 else (if b = true then A i else B i)), .int .i64 (if (if b = true then A i else B i) = -1 then 4 else 0)]) (poolB n m fr V L N P A B C) := by
  refine LocP.mk (loc_x hmix b65 rfl ?_)
  unfold c65
  have h0 := ge0 (A := A) (B := B) (C := C) hi
  have h1 := ge1 (A := A) (B := B) (C := C) hi
  have hu := l_has (fr := fr) (V := V) (L := L) (N := N) (P := P) (A := A) (B := B) (C := C) i hn hi
  cases b
  · by_cases hq : B i = -1
    · (refine wx_Lb ?_; repeat' (first | with_reducible refine And.intro ?_ ?_ | intro hsp))
      all_goals exact end_pool (wk_ints (by simp [hq]) (by simp [hq])) rfl rfl rfl
    · (refine wx_Lb ?_; repeat' (first | with_reducible refine And.intro ?_ ?_ | intro hsp))
      all_goals exact end_pool (wk_ints (by simp [hq]) (by simp [hq])) rfl rfl rfl
  · by_cases hq : A i = -1
    · (refine wx_Lb ?_; repeat' (first | with_reducible refine And.intro ?_ ?_ | intro hsp))
      all_goals exact end_pool (wk_ints (by simp [hq]) (by simp [hq])) rfl rfl rfl
    · (refine wx_Lb ?_; repeat' (first | with_reducible refine And.intro ?_ ?_ | intro hsp))
      all_goals exact end_pool (wk_ints (by simp [hq]) (by simp [hq])) rfl rfl rfl
theorem l_end_no (i : Int) (b : Bool) (hn : 0 < n) (hi : i < 0 ∨ (m : Int) ≤ i) : LocP 65 [.int .i64 i, .bool b] n m (poolB n m fr V L N P A B C) (.tup [.int .i64 0, .int .i64 7]) (poolB n m fr V L N P A B C) := by
  refine LocP.mk (loc_x hmix b65 rfl ?_)
  unfold c65
  have hu := l_hasnt (fr := fr) (V := V) (L := L) (N := N) (P := P) (A := A) (B := B) (C := C) i hn hi
  (refine wx_Lb ?_; repeat' (first | with_reducible refine And.intro ?_ ?_ | intro hsp))
  all_goals exact end_pool (wk_ints rfl rfl) rfl rfl rfl
end
end Go.Proofs.Ytkjimnhmiojcdaa
namespace Go.Pol
def tieN (N : Nat → Int) (x : Nat) (p q : Int) : Nat → Int := if p = -1 then updI N x q else updI (updI N x q) p.toNat x
def tieP (P : Nat → Int) (x : Nat) (p q : Int) : Nat → Int := if q = -1 then updI P x p else updI (updI P x p) q.toNat x
def tieA (A : Nat → Int) (i x : Nat) (p : Int) : Nat → Int := if p = -1 then updI A i x else A
def unN (N : Nat → Int) (s : Nat) (p q : Int) : Nat → Int := updI (if p = -1 then N else updI N p.toNat q) s (-1)
def unP (P : Nat → Int) (s : Nat) (p q : Int) : Nat → Int := updI (if q = -1 then P else updI P q.toNat p) s (-1)
def unA (A : Nat → Int) (i : Nat) (p q : Int) : Nat → Int := if p = -1 then updI A i q else A
end Go.Pol
namespace Go.Proofs.Ytkjimnhmiojcdaa
open Go Go.Am Go.Pol
theorem wkx_Lc {p : Prop} (h : p := by (refine weak_s (by exact oneOf_of rfl) (by exact subH_of rfl) (by intro hs; (repeat' ((try (conv => whnf)); first | with_reducible exact True.intro | with_reducible refine And.intro ?_ ?_ | (with_reducible refine WkX.mk ?_; first | exact wk_int (by first | rfl | omega | (dsimp only; omega)) | exact wk_bool rfl | exact wk_ptr rfl (by first | decide | omega | simp) | exact wk_sl rfl (by first | decide | omega | simp) (by first | rfl | omega | simp) (by first | omega | simp) (by first | omega | simp) | exact wk_plain hs (by (first | assumption | exact plain_int | exact plain_bool | exact plain_undef | exact plain_nils | exact plain_nilp | exact plain_nilf | exact plain_str)))))) (by intro hs; (try dsimp only); (repeat' (first | with_reducible exact wko_nil | refine wko_plain hs (by first | decide | omega | simp) rfl (by first | rfl) (by (first | with_reducible assumption | with_reducible apply cells_plain | with_reducible apply ends_plain | with_reducible apply plain_map (fun _ => plain_int) | with_reducible apply plain_map (fun _ => plain_bool) | ((repeat' (first | exact plain_all0 | refine plain_all2 ?_ ?_ | exact plain_int | first | assumption | exact plain_int | exact plain_bool | exact plain_undef | exact plain_nils | exact plain_nilp | exact plain_nilf | exact plain_str)); done) | ((refine plain_app ?_ ?_) <;> (first | with_reducible assumption | with_reducible apply cells_plain | with_reducible apply ends_plain | with_reducible apply plain_map (fun _ => plain_int) | with_reducible apply plain_map (fun _ => plain_bool) | ((repeat' (first | exact plain_all0 | refine plain_all2 ?_ ?_ | exact plain_int | first | assumption | exact plain_int | exact plain_bool | exact plain_undef | exact plain_nils | exact plain_nilp | exact plain_nilf | exact plain_str)); done))))) ?_ | refine wko_cells (by first | decide | omega | simp) rfl (by repeat' (first | with_reducible exact wkl_nil | with_reducible refine wkl_cons ?_ ?_ | (first | exact wk_int (by first | rfl | omega | (dsimp only; omega)) | exact wk_bool rfl | exact wk_ptr rfl (by first | decide | omega | simp) | exact wk_sl rfl (by first | decide | omega | simp) (by first | rfl | omega | simp) (by first | omega | simp) (by first | omega | simp) | exact wk_plain hs (by (first | assumption | exact plain_int | exact plain_bool | exact plain_undef | exact plain_nils | exact plain_nilp | exact plain_nilf | exact plain_str))))) ?_ | exact wko_nil))))) : p := h
theorem wx_Lc {p q : Prop} (hq : q) (h : HidP q → p := by (intro hQz; ((repeat' ((try (conv => whnf)); first | (with_reducible first | refine run_cons ?_ | refine runq_cons ?_ | refine code_seq ?_ | refine code_reg ?_ | refine code_cond ?_ | refine run_nil ?_ | refine runq_nil ?_ | refine rund_op rfl ?_ | refine rund_nil ?_ | refine code_block ?_ | refine code_skip ?_ | refine code_exit ?_ | refine code_ret ?_ | refine code_range ?_ | refine rund_fast (by decide +kernel) ?_ | refine rund_slow (by decide +kernel) ?_ | refine br_tt ?_ | refine br_ff ?_ | refine br_n ?_ | refine br_and ?_ | refine br_or ?_ | refine br_t (by assumption) ?_ | refine br_f (by assumption) ?_ | refine eq_i64 (by omega) ?_ | refine el_tn ?_) | ((with_reducible refine br_dt ?_ ?_); focus omega) | ((with_reducible refine br_df ?_ ?_); focus omega) | ((with_reducible apply br_dq hQz) <;> (try intro hsp hQz)) | ((with_reducible refine ck_x ?_ ?_); focus (first | omega | rfl | assumption | decide | (simp only [List.length_map, List.length_cons, List.length_nil]; omega) | exact hw)) | refine eq_of (hw) ?_ | (with_reducible first | refine eq_tn ?_ | refine eq_tn1 ?_ | refine eq_tn2 ?_ | refine eq_m1 ?_ | refine eq_m2 ?_ | refine eq_zm ?_ | refine eq_z ?_ | refine len_map ?_ | refine len_sl ?_ | refine len_nils ?_ | refine len_own' ?_ | refine len_isl ?_ | refine eq_u8 (by omega) ?_ | refine eq_u16 (by omega) ?_) | refine set1K_of (by rw [cells_len]; omega) sc1 ?_ | refine set1K_of (by rw [cells_len]; omega) sc2 ?_ | refine set1K_of (by rw [cells_len]; omega) sc3 ?_ | refine set1K_of (by rw [ends_len]; omega) se0 ?_ | refine set1K_of (by rw [ends_len]; omega) se1 ?_ | refine set1K_of (by rw [ends_len]; omega) se2 ?_ | refine nthK_of (ge2 hi) ?_ | refine nthK_of (g1 _ _ _) ?_ | refine nthK_of (g2 _ _ _) ?_ | refine nthK_of (g3 _ _ _) ?_ | refine nthK_of (g4 _ _ _) ?_ | refine nthK_of (gc1 (by omega)) ?_ | refine nthK_of ((gc1 (by omega)).trans (by rw [hl])) ?_ | (with_reducible first | refine eq_rfl ?_ | refine ChkX.mk (by kernel_rfl) ?_ | refine code_q rfl ?_ | refine code_d (by decide +kernel) ?_ | refine end_go rfl ?_) | refine len_map ?_ | refine len_isl ?_ | refine el_of rfl rfl ?_ | refine del_own ?_ | refine del_own' rfl ?_ | refine as_go rfl ?_ | refine rd_go rfl ?_ | refine rg_end rfl ?_ | refine flat_ownX ?_ | refine EqLX.mk ?_ | ((with_reducible apply br_bq hQz) <;> (try intro hsp hQz)) | exact hQz.out)) <;> (try (conv => whnf))))) : p := h ⟨hq⟩
section
variable {n m : Nat} {fr : Int} {V L N P A B C : Nat → Int}
theorem wk_none {σ : Nat → Nat} {h h' : Hp} : WkV Try.prog σ h h' (.tup []) (.tup []) := wk_tup trivial
theorem plain_none : Plain (.tup []) := plain_tup fun _ h => by cases h
theorem l_tie (x i : Nat) (p q : Int) (hx : x < n) (hi : i < m) (hp : p = -1 ∨ ∃ a : Nat, a < n ∧ p = (a : Int)) (hq : q = -1 ∨ ∃ a : Nat, a < n ∧ q = (a : Int)) (hC : 0 ≤ C i ∧ C i < 9000) :
    LocP 70 [.int .i64 (x : Nat), .int .i64 (i : Nat), .int .i64 p, .int .i64 q] n m (poolB n m fr V L N P A B C) (.tup []) (poolB n m fr V (updI L x i) (tieN N x p q) (tieP P x p q) (tieA A i x p) (tieA B i x q) (updI C i (C i + 1))) := by
  refine LocP.mk (loc_x hmix b70 rfl ?_)
  unfold c70
  have hw : IntKind.i64.wrap (C i + 1) = C i + 1 := IntWalk.i64_in _ (by omega)
  rcases hp with rfl | ⟨a, ha, rfl⟩
  · rcases hq with rfl | ⟨b, hb, rfl⟩
    · skip
      skip
      unfold tieN tieP tieA
      simp only [if_true, if_true]
      (refine wx_Lc ?_; repeat' (first | with_reducible refine And.intro ?_ ?_ | intro hsp))
      all_goals exact end_pool wk_none rfl rfl rfl
    · skip
      have q2 : ¬ ((b : Nat) : Int) = -1 := by omega
      unfold tieN tieP tieA
      simp only [if_true, q2, if_false, Int.toNat_natCast]
      (refine wx_Lc ?_; repeat' (first | with_reducible refine And.intro ?_ ?_ | intro hsp))
      all_goals exact end_pool wk_none rfl rfl rfl
  · rcases hq with rfl | ⟨b, hb, rfl⟩
    · have q1 : ¬ ((a : Nat) : Int) = -1 := by omega
      skip
      unfold tieN tieP tieA
      simp only [q1, if_false, Int.toNat_natCast, if_true]
      (refine wx_Lc ?_; repeat' (first | with_reducible refine And.intro ?_ ?_ | intro hsp))
      all_goals exact end_pool wk_none rfl rfl rfl
    · have q1 : ¬ ((a : Nat) : Int) = -1 := by omega
      have q2 : ¬ ((b : Nat) : Int) = -1 := by omega
      unfold tieN tieP tieA
      simp only [q1, if_false, Int.toNat_natCast, q2, if_false, Int.toNat_natCast]
      (refine wx_Lc ?_; repeat' (first | with_reducible refine And.intro ?_ ?_ | intro hsp))
      all_goals exact end_pool wk_none rfl rfl rfl
set_option maxHeartbeats 1600000 in
theorem l_untie (s i : Nat) (p q : Int) (hs : s < n) (hi : i < m) (hLs : L s = (i : Nat)) (hNs : N s = q) (hPs : P s = p) (hp : p = -1 ∨ ∃ a : Nat, a < n ∧ a ≠ s ∧ p = (a : Int)) (hq : q = -1 ∨ ∃ a : Nat, a < n ∧ q = (a : Int)) (hC : 0 < C i ∧ C i < 9000) :
    LocP 51 [.int .i64 (s : Nat)] n m (poolB n m fr V L N P A B C) (.tup []) (poolB n m fr V (updI L s (-1)) (unN N s p q) (unP P s p q) (unA A i p q) (unA B i q p) (updI C i (C i - 1))) := by
  refine LocP.mk (loc_x hmix b51 rfl ?_)
  unfold c51
  have hw : IntKind.i64.wrap (C i - 1) = C i - 1 := IntWalk.i64_in _ (by omega)
  have g1 : ∀ V N P : Nat → Int, (cellsB n V L N P)[s * 4 + 1]? = some (.int .i64 (i : Nat)) := fun V N P => (gc1 hs).trans (by rw [hLs])
  have g2 : ∀ V L P : Nat → Int, (cellsB n V L N P)[s * 4 + 2]? = some (.int .i64 q) := fun V L P => (gc2 hs).trans (by rw [hNs])
  have g3 : ∀ V L N : Nat → Int, (cellsB n V L N P)[s * 4 + 3]? = some (.int .i64 p) := fun V L N => (gc3 hs).trans (by rw [hPs])
  rcases hp with rfl | ⟨a, ha, hne, rfl⟩
  · rcases hq with rfl | ⟨b, hb, rfl⟩
    · skip
      unfold unN unP unA
      simp only [if_true, if_true]
      (refine wx_Lc ?_; repeat' (first | with_reducible refine And.intro ?_ ?_ | intro hsp))
      all_goals exact end_pool wk_none rfl rfl rfl
    · have q2 : ¬ ((b : Nat) : Int) = -1 := by omega
      skip
      unfold unN unP unA
      simp only [if_true, q2, if_false, Int.toNat_natCast]
      (refine wx_Lc ?_; repeat' (first | with_reducible refine And.intro ?_ ?_ | intro hsp))
      all_goals exact end_pool wk_none rfl rfl rfl
  · rcases hq with rfl | ⟨b, hb, rfl⟩
    · have q1 : ¬ ((a : Nat) : Int) = -1 := by omega
      have g4 : ∀ V L P : Nat → Int, (cellsB n V L (updI N a (-1)) P)[s * 4 + 2]? = some (.int .i64 (-1)) := fun V L P => (gc2 hs).trans (by rw [updI_ne (Ne.symm hne), hNs])
      unfold unN unP unA
      simp only [q1, if_false, Int.toNat_natCast, if_true]
      (refine wx_Lc ?_; repeat' (first | with_reducible refine And.intro ?_ ?_ | intro hsp))
      all_goals exact end_pool wk_none rfl rfl rfl
    · have q1 : ¬ ((a : Nat) : Int) = -1 := by omega
      have q2 : ¬ ((b : Nat) : Int) = -1 := by omega
      have g4 : ∀ V L P : Nat → Int, (cellsB n V L (updI N a ((b : Nat) : Int)) P)[s * 4 + 2]? = some (.int .i64 ((b : Nat) : Int)) := fun V L P => (gc2 hs).trans (by rw [updI_ne (Ne.symm hne), hNs])
      unfold unN unP unA
      simp only [q1, if_false, Int.toNat_natCast, q2, if_false, Int.toNat_natCast]
      (refine wx_Lc ?_; repeat' (first | with_reducible refine And.intro ?_ ?_ | intro hsp))
      all_goals exact end_pool wk_none rfl rfl rfl
theorem l_least (f s : Nat) (hf : f ≤ s) (hs : s < n) (hn : n ≤ 100000) (hu : ∀ t, f ≤ t → t < s → L t ≠ -1) (hl : L s = -1) : LocP 48 [] n m (poolB n m (f : Nat) V L N P A B C) (.int .i64 (s : Nat)) (poolB n m (s : Nat) V L N P A B C) := by
  refine LocP.mk (loc_x hmix b48 rfl ?_)
  unfold c48
  (refine wx_Lc ?_; repeat' (first | with_reducible refine And.intro ?_ ?_ | intro hsp))
  (refine loop_x [0] (fun (k : Nat) => []) (fun (k : Nat) => ⟨poolB n m (k : Nat) V L N P A B C, 3⟩) (fun (k : Nat) => f ≤ k ∧ k ≤ s) (fun (k : Nat) => s - k) (f) [] rfl (fun _ => by first | exact Nat.zero_le _ | (dsimp only; omega)) ?_ (by ((try (conv => whnf)); exact wkx_Lc)) ?_)
  · exact ⟨Nat.le_refl _, hf⟩
  rintro k ⟨hk1, hk2⟩
  by_cases hks : k < s
  · have h1 := hu k hk1 hks
    have hw : IntKind.i64.wrap ((k : Int) + 1) = ((k + 1 : Nat) : Int) := by rw [IntWalk.i64_in _ (by omega)]; omega
    (refine wx_Lc ?_; repeat' (first | with_reducible refine And.intro ?_ ?_ | intro hsp))
    exact next_x (k + 1) [] (by (try dsimp only); omega) (by first | omega | (dsimp only; omega)) rfl (by exact wkx_Lc)
  · obtain rfl : k = s := by omega
    (refine wx_Lc ?_; repeat' (first | with_reducible refine And.intro ?_ ?_ | intro hsp))
    exact end_pool (wk_int rfl) rfl rfl rfl
theorem l_least_no (f : Nat) (hf : f ≤ n) (hn : n ≤ 100000) (hu : ∀ t, f ≤ t → t < n → L t ≠ -1) : LocP 48 [] n m (poolB n m (f : Nat) V L N P A B C) (.int .i64 (-1)) (poolB n m (n : Nat) V L N P A B C) := by
  refine LocP.mk (loc_x hmix b48 rfl ?_)
  unfold c48
  (refine wx_Lc ?_; repeat' (first | with_reducible refine And.intro ?_ ?_ | intro hsp))
  (refine loop_x [0] (fun (k : Nat) => []) (fun (k : Nat) => ⟨poolB n m (k : Nat) V L N P A B C, 3⟩) (fun (k : Nat) => f ≤ k ∧ k ≤ n) (fun (k : Nat) => n - k) (f) [] rfl (fun _ => by first | exact Nat.zero_le _ | (dsimp only; omega)) ?_ (by ((try (conv => whnf)); exact wkx_Lc)) ?_)
  · exact ⟨Nat.le_refl _, hf⟩
  rintro k ⟨hk1, hk2⟩
  by_cases hks : k < n
  · have h1 := hu k hk1 hks
    have hw : IntKind.i64.wrap ((k : Int) + 1) = ((k + 1 : Nat) : Int) := by rw [IntWalk.i64_in _ (by omega)]; omega
    (refine wx_Lc ?_; repeat' (first | with_reducible refine And.intro ?_ ?_ | intro hsp))
    exact next_x (k + 1) [] (by (try dsimp only); omega) (by first | omega | (dsimp only; omega)) rfl (by exact wkx_Lc)
  · obtain rfl : k = n := by omega
    (refine wx_Lc ?_; repeat' (first | with_reducible refine And.intro ?_ ?_ | intro hsp))
    exact end_pool (wk_int rfl) rfl rfl rfl
end
end Go.Proofs.Ytkjimnhmiojcdaa
