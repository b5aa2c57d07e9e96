/-
  The document's system: Join, Split, bytes, kinds, counts, plans over the plain state.
-/
import Derived.Test.YtjlbfijjfjogiaaTd
set_option linter.unusedSimpArgs false
set_option linter.unusedVariables false
namespace Go.Pol
open Go.Am
def Sy.write (s : Sy) (a b : Int) : Int × Sy :=
  if a < 0 ∨ 65536 ≤ a then (7, s) else if s.K (a.toNat / 64) = 2 then (0, { s with B := updP s.B (a.toNat / 64) (updI (s.B (a.toNat / 64)) (a.toNat % 64) b) }) else (61, s)
def Sy.read (s : Sy) (a : Int) : Int × Int :=
  if a < 0 ∨ 65536 ≤ a then (0, 7) else if s.K (a.toNat / 64) = 2 then (s.B (a.toNat / 64) (a.toNat % 64), 0) else (0, 61)
def Sy.kind (s : Sy) (a : Int) : List AV :=
  if a < 0 ∨ 1024 ≤ a then [.int .i64 0, .bool false, .int .i64 7] else [.int .i64 (s.K a.toNat), .bool (s.M a.toNat), .int .i64 0]
def Sy.new (l : List Rl) : Sy := ⟨fun _ => 0, fun _ => false, fun _ _ => 0, l, fun _ => 0, fun _ => 0⟩
def Sy.plan (s : Sy) (l : List Rl) : Int × Sy := if (chkP l).2 = 0 then (0, { s with l := l, C := fun _ => 0, H := fun _ => 0 }) else ((chkP l).2, s)
theorem chkS_new {l : List Rl} (h : (chkP l).2 = 0) : chkS l (fun _ => 0) (fun _ => 0) = 0 := by
  unfold chkS
  rw [if_neg (by rw [h]; simp), if_pos]
  intro k hk
  exact ⟨Int.le_refl _, by show (0 : Int) ≤ 1000000; decide, rfl⟩
theorem good_new {l : List Rl} (h : (chkP l).2 = 0) : GoodS (Sy.new l) := ⟨chkS_new h, fun _ => ⟨Int.le_refl _, (by show (0 : Int) ≤ 3; decide)⟩, fun p hp => (by cases hp), fun _ _ => rfl, fun _ _ => rfl, fun _ _ _ => rfl⟩
theorem good_plan {s : Sy} {l : List Rl} (h : GoodS s) : GoodS (s.plan l).2 := by
  unfold Sy.plan
  split
  · exact ⟨chkS_new (by assumption), h.kind, h.huge, h.zero, h.cK, h.cB⟩
  · exact h
theorem good_write {s : Sy} {a b : Int} (h : GoodS s) : GoodS (s.write a b).2 := by
  unfold Sy.write
  split
  · exact h
  · split
    · rename_i hk
      refine ⟨h.hv, h.kind, h.huge, fun p hp => ?_, h.cK, fun p j hj => ?_⟩
      · show updP s.B _ _ p = _
        unfold updP
        rw [if_neg fun e => hp (by rw [e]; exact hk)]
        exact h.zero p hp
      · show updP s.B _ _ p j = 0
        unfold updP
        split
        · unfold updI; rw [if_neg (by omega)]; exact h.cB _ _ hj
        · exact h.cB _ _ hj
    · exact h
def cntK (K : Nat → Int) (v : Int) : Nat → Nat
  | 0 => 0
  | n + 1 => cntK K v n + if K n = v then 1 else 0
def cntG (G : Nat → Bool) : Nat → Nat
  | 0 => 0
  | n + 1 => cntG G n + if G n = true then 1 else 0
theorem cntK_le {K : Nat → Int} {v : Int} : ∀ n, cntK K v n ≤ n
  | 0 => Nat.le_refl _
  | n + 1 => by have := cntK_le (K := K) (v := v) n; unfold cntK; split <;> omega
theorem cntG_le {G : Nat → Bool} : ∀ n, cntG G n ≤ n
  | 0 => Nat.le_refl _
  | n + 1 => by have := cntG_le (G := G) n; unfold cntG; split <;> omega
/-- The numbers of pages of each kind, and of huge pages. -/
def Sy.counts (s : Sy) : List AV := [.int .i64 (cntK s.K 0 1024 : Nat), .int .i64 (cntK s.K 1 1024 : Nat), .int .i64 (cntK s.K 2 1024 : Nat), .int .i64 (cntK s.K 3 1024 : Nat), .int .i64 (cntG s.G 64 : Nat)]
theorem quo64 {a : Int} (h : 0 ≤ a) (h2 : a < 100000) : IntKind.i64.wrap (a.tdiv 64) = ((a.toNat / 64 : Nat) : Int) := by
  rw [Int.tdiv_eq_ediv_of_nonneg h, IntWalk.i64_in _ ⟨by omega, by omega⟩]; omega
theorem rem64 {a : Int} (h : 0 ≤ a) : a.tmod 64 = ((a.toNat % 64 : Nat) : Int) := by
  rw [Int.tmod_eq_emod_of_nonneg h]; omega
theorem okCV {K : Nat → Int} {a n : Nat} : okC K a n ↔ okV K a n 2 := Iff.rfl
end Go.Pol
namespace Go.Proofs.Ytjlbfijjfjogiaa
open Go Go.Am Go.Pol
theorem wte {p q : Prop} (hq : q) (h : HidP q → p := by (intro hQz; ((repeat' ((try (conv => whnf)); first | (with_reducible first | refine run_cons ?_ | refine runq_cons ?_ | refine code_seq ?_ | refine code_reg ?_ | refine code_cond ?_ | refine run_nil ?_ | refine runq_nil ?_ | refine rund_op rfl ?_ | refine rund_nil ?_ | refine code_block ?_ | refine code_skip ?_ | refine code_exit ?_ | refine code_ret ?_ | refine code_range ?_ | refine rund_fast (by decide +kernel) ?_ | refine rund_slow (by decide +kernel) ?_ | refine br_tt ?_ | refine br_ff ?_ | refine br_n ?_ | refine br_and ?_ | refine br_or ?_ | refine br_t (by assumption) ?_ | refine br_f (by assumption) ?_ | refine eq_i64 (by omega) ?_ | refine el_tn ?_) | ((with_reducible refine br_dt ?_ ?_); focus omega) | ((with_reducible refine br_df ?_ ?_); focus omega) | ((with_reducible apply br_dq hQz) <;> (try intro hsp hQz)) | ((with_reducible refine ck_x ?_ ?_); focus (first | omega | rfl | assumption | decide | (simp only [List.length_map, List.length_cons, List.length_nil]; omega))) | (with_reducible first | refine eq_tn ?_ | refine eq_tn1 ?_ | refine eq_tn2 ?_ | refine eq_m1 ?_ | refine eq_m2 ?_ | refine eq_zm ?_ | refine eq_z ?_ | refine len_map ?_ | refine len_sl ?_ | refine len_nils ?_ | refine len_own' ?_ | refine len_isl ?_ | refine eq_u8 (by omega) ?_ | refine eq_u16 (by omega) ?_) | refine nthK_of (by with_reducible assumption) ?_ | refine eq_of (by with_reducible assumption) ?_ | refine set1K_of (by rw [ref_len]; omega) (by with_reducible assumption) ?_ | refine overK_cons (by first | (rw [ref_len]; simp only [List.length_cons, List.length_nil]; omega) | fail) (by assumption) ?_ | (with_reducible first | refine eq_rfl ?_ | refine ChkX.mk (by kernel_rfl) ?_ | refine code_q rfl ?_ | refine code_d (by decide +kernel) ?_ | refine end_go rfl ?_) | refine cx_locS (by assumption) rfl (by omega) ?_ | refine dcx_locS (by assumption) rfl rfl ?_ | refine cx_pureS (by assumption) ?_ | refine dcx_pureS (by assumption) ?_ | refine qcx_pureS (by assumption) ?_ | refine cx_pureS (r_page _) ?_ | refine dcx_pureS (r_page _) ?_ | refine qcx_pureS (r_page _) ?_ | refine len_map ?_ | refine len_isl ?_ | refine el_of rfl rfl ?_ | refine del_own ?_ | refine del_own' rfl ?_ | refine as_go rfl ?_ | refine rd_go rfl ?_ | refine rg_end rfl ?_ | refine flat_ownX ?_ | refine EqLX.mk ?_ | ((with_reducible apply br_bq hQz) <;> (try intro hsp hQz)) | exact hQz.out)) <;> (try (conv => whnf))))) : p := h ⟨hq⟩
section
variable {s : Sy} {a : Int}
set_option maxHeartbeats 1600000 in
theorem q_join (hg : GoodS s) : LocS 59 [.int .i64 a] s.b (.int .i64 (s.join a).1) (s.join a).2.b := by
  refine LocS.mk (loc_x hmix b59 rfl ?_) b_plain b_plain (plain_1 plain_int) plain_int
  unfold c59
  unfold Sy.join
  by_cases h1 : fst a
  · rw [if_pos h1]
    have h1' := h1
    obtain ⟨g, rfl, hg2⟩ := fst_nat h1
    simp only [Int.toNat_natCast]
    have hp := r_page ((g * 16 : Nat) : Int)
    rw [decide_eq_true (show (0 : Int) ≤ ((g * 16 : Nat) : Int) ∧ ((g * 16 : Nat) : Int) < 1024 by omega)] at hp
    have ht : ((g * 16 : Nat) : Int).tmod 16 = 0 := h1'.2.2
    have z := r_kinds (K := s.K) (G := s.G) (B := s.B) (stA_plain (l := s.l) (C := s.C) (H := s.H)) (g * 16) 16 2 (by omega)
    have hw : IntKind.i64.wrap (((g * 16 : Nat) : Int).tdiv 16) = ((g : Nat) : Int) := by rw [quo16 (by omega)]; omega
    have hh : (refK s.K s.G s.B (stA s.l s.C s.H))[1024 + g]? = some (.bool (s.G g)) := rfk_huge hg2
    have eM : s.M (g * 16) = s.G g := by show s.G (g * 16 / 16) = _; rw [show g * 16 / 16 = g by omega]
    rw [eM, show g * 16 / 16 = g by omega]
    unfold Sy.b
    by_cases h2 : okV s.K (g * 16) 16 2
    · rw [decide_eq_true h2] at z
      rw [if_pos (okCV.2 h2)]
      cases h3 : s.G g with
      | true =>
        rw [h3] at hh
        rw [if_pos rfl]
        (refine wte ?_; repeat' (first | with_reducible refine And.intro ?_ ?_ | intro hsp))
        all_goals first | exact end_s rfl plain_int rfl (rfk_plain stA_plain) | (exfalso; omega)
      | false =>
        rw [h3] at hh
        rw [if_neg (by simp)]
        have z2 := r_ref (K := s.K) (G := s.G) (B := s.B) hg.hv (show 5 < 7 by decide)
        cases h4 : isR s.l s.C 5 with
        | true =>
          rw [h4] at z2
          rw [if_pos rfl]
          unfold Sy.ref
          (refine wte ?_; repeat' (first | with_reducible refine And.intro ?_ ?_ | intro hsp))
          all_goals first | exact end_s rfl plain_int rfl (rfk_plain stA_plain) | (exfalso; omega)
        | false =>
          rw [h4] at z2
          rw [if_neg (by simp)]
          unfold Sy.ref
          have hs : (refK s.K s.G s.B (stA s.l (C1 s.C 5) (H1 s.l s.C s.H 5))).set (1024 + g) (.bool true) = refK s.K (updB s.G g true) s.B (stA s.l (C1 s.C 5) (H1 s.l s.C s.H 5)) := rfk_setHuge hg2
          (refine wte ?_; repeat' (first | with_reducible refine And.intro ?_ ?_ | intro hsp))
          all_goals first | exact end_s rfl plain_int rfl (rfk_plain stA_plain) | (exfalso; omega)
    · rw [decide_eq_false h2] at z
      rw [if_neg fun h => h2 (okCV.1 h)]
      have h3 : s.G g = false := by
        cases h3 : s.G g with
        | false => rfl
        | true =>
          refine absurd (fun i hi => hg.huge _ ?_) h2
          show s.G ((g * 16 + i) / 16) = true
          rw [show (g * 16 + i) / 16 = g by omega]; exact h3
      rw [h3, if_neg (by simp)]
      (refine wte ?_; repeat' (first | with_reducible refine And.intro ?_ ?_ | intro hsp))
      all_goals first | exact end_s rfl plain_int rfl (rfk_plain stA_plain) | (exfalso; omega)
  · rw [if_neg h1]
    by_cases hp1 : 0 ≤ a ∧ a < 1024
    · have hp := r_page a
      rw [decide_eq_true hp1] at hp
      have ht : ¬ a.tmod 16 = 0 := fun h => h1 ⟨hp1.1, hp1.2, h⟩
      (refine wte ?_; repeat' (first | with_reducible refine And.intro ?_ ?_ | intro hsp))
      all_goals first | exact end_s rfl plain_int rfl b_plain | (exfalso; exact ht (by omega))
    · have hp := r_page a
      rw [decide_eq_false hp1] at hp
      (refine wte ?_; repeat' (first | with_reducible refine And.intro ?_ ?_ | intro hsp))
      all_goals exact end_s rfl plain_int rfl b_plain
set_option maxHeartbeats 1600000 in
theorem q_split (hg : GoodS s) : LocS 60 [.int .i64 a] s.b (.int .i64 (s.split a).1) (s.split a).2.b := by
  refine LocS.mk (loc_x hmix b60 rfl ?_) b_plain b_plain (plain_1 plain_int) plain_int
  unfold c60
  unfold Sy.split
  by_cases h1 : fst a
  · rw [if_pos h1]
    have h1' := h1
    obtain ⟨g, rfl, hg2⟩ := fst_nat h1
    simp only [Int.toNat_natCast]
    have hp := r_page ((g * 16 : Nat) : Int)
    rw [decide_eq_true (show (0 : Int) ≤ ((g * 16 : Nat) : Int) ∧ ((g * 16 : Nat) : Int) < 1024 by omega)] at hp
    have ht : ((g * 16 : Nat) : Int).tmod 16 = 0 := h1'.2.2
    have hw : IntKind.i64.wrap (((g * 16 : Nat) : Int).tdiv 16) = ((g : Nat) : Int) := by rw [quo16 (by omega)]; omega
    have hh : (refK s.K s.G s.B (stA s.l s.C s.H))[1024 + g]? = some (.bool (s.G g)) := rfk_huge hg2
    have eM : s.M (g * 16) = s.G g := by show s.G (g * 16 / 16) = _; rw [show g * 16 / 16 = g by omega]
    rw [eM, show g * 16 / 16 = g by omega]
    unfold Sy.b
    cases h3 : s.G g with
    | false =>
      rw [h3] at hh
      rw [if_neg (by simp)]
      (refine wte ?_; repeat' (first | with_reducible refine And.intro ?_ ?_ | intro hsp))
      all_goals first | exact end_s rfl plain_int rfl (rfk_plain stA_plain) | (exfalso; omega)
    | true =>
      rw [h3] at hh
      rw [if_pos rfl]
      have z2 := r_ref (K := s.K) (G := s.G) (B := s.B) hg.hv (show 6 < 7 by decide)
      cases h4 : isR s.l s.C 6 with
      | true =>
        rw [h4] at z2
        rw [if_pos rfl]
        unfold Sy.ref
        (refine wte ?_; repeat' (first | with_reducible refine And.intro ?_ ?_ | intro hsp))
        all_goals first | exact end_s rfl plain_int rfl (rfk_plain stA_plain) | (exfalso; omega)
      | false =>
        rw [h4] at z2
        rw [if_neg (by simp)]
        unfold Sy.ref
        have hs : (refK s.K s.G s.B (stA s.l (C1 s.C 6) (H1 s.l s.C s.H 6))).set (1024 + g) (.bool false) = refK s.K (updB s.G g false) s.B (stA s.l (C1 s.C 6) (H1 s.l s.C s.H 6)) := rfk_setHuge hg2
        (refine wte ?_; repeat' (first | with_reducible refine And.intro ?_ ?_ | intro hsp))
        all_goals first | exact end_s rfl plain_int rfl (rfk_plain stA_plain) | (exfalso; omega)
  · rw [if_neg h1]
    by_cases hp1 : 0 ≤ a ∧ a < 1024
    · have hp := r_page a
      rw [decide_eq_true hp1] at hp
      have ht : ¬ a.tmod 16 = 0 := fun h => h1 ⟨hp1.1, hp1.2, h⟩
      (refine wte ?_; repeat' (first | with_reducible refine And.intro ?_ ?_ | intro hsp))
      all_goals first | exact end_s rfl plain_int rfl b_plain | (exfalso; exact ht (by omega))
    · have hp := r_page a
      rw [decide_eq_false hp1] at hp
      (refine wte ?_; repeat' (first | with_reducible refine And.intro ?_ ?_ | intro hsp))
      all_goals exact end_s rfl plain_int rfl b_plain
end
end Go.Proofs.Ytjlbfijjfjogiaa
