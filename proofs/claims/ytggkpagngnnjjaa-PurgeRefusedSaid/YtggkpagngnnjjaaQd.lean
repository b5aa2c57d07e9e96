/-
  Check of a queue's state: the program's.
-/
import Derived.Test.YtggkpagngnnjjaaQc
set_option linter.unusedSimpArgs false
set_option linter.unusedVariables false
namespace Go.Pol
open Go.Am
def pgA (a : Int × Int) : List AV := [.int .i64 a.1, .int .i64 a.2]
theorem pg_len (a : Int × Int) : (pgA a).length = 2 := rfl
theorem pgA_plain (a : Int × Int) : ∀ x ∈ pgA a, Plain x := fun x hx => by
  simp only [pgA, List.mem_cons, List.not_mem_nil, or_false] at hx
  rcases hx with rfl | rfl <;> exact plain_int
def stP (age ref keep : Int) (l : List (Int × Int)) : AV := .agg [.int .i64 age, .int .i64 ref, .int .i64 keep, .isl (l.map pgA)]
theorem plain_pgs {l : List (Int × Int)} : Plain (.isl (l.map pgA)) := plain_isl fun e he => by
  obtain ⟨a, _, rfl⟩ := List.mem_map.1 he
  exact pgA_plain a
theorem plain_stP {age ref keep : Int} {l : List (Int × Int)} : Plain (stP age ref keep l) := plain_agg fun x hx => by
  simp only [List.mem_cons, List.not_mem_nil, or_false] at hx
  rcases hx with rfl | rfl | rfl | rfl
  · exact plain_int
  · exact plain_int
  · exact plain_int
  · exact plain_pgs
theorem plain_pgA {a : Int × Int} : Plain (.agg (pgA a)) := plain_agg (pgA_plain a)
def d0 : Int × Int := (0, 0)
def badSt (age ref keep : Int) : Prop := ref < 0 ∨ age < 0 ∨ 1000000000000 < age ∨ keep < 0 ∨ 1024 < keep
def P1 (l : List (Int × Int)) : Prop := ∀ j, j < l.length → okPg (nth d0 l j)
def P2 (l : List (Int × Int)) : Prop := ∀ j, j + 1 < l.length → ¬ ltP (nth d0 l (j + 1)) (nth d0 l j)
def P3 (l : List (Int × Int)) : Prop := ∀ j k, j < k → k < l.length → (nth d0 l j).1 ≠ (nth d0 l k).1
/-- What Check says of a state. -/
def Chk (age ref keep : Int) (l : List (Int × Int)) (r : Int) : Prop :=
  (badSt age ref keep ∧ r = 2) ∨ (¬ badSt age ref keep ∧ ¬ P1 l ∧ r = 7) ∨ (¬ badSt age ref keep ∧ P1 l ∧ ¬ P2 l ∧ r = 6) ∨ (¬ badSt age ref keep ∧ P1 l ∧ P2 l ∧ ¬ P3 l ∧ r = 8) ∨ (¬ badSt age ref keep ∧ P1 l ∧ P2 l ∧ P3 l ∧ r = 0)
theorem chk_ex (age ref keep : Int) (l : List (Int × Int)) : ∃ r, Chk age ref keep l r := by
  by_cases h0 : badSt age ref keep
  · exact ⟨2, .inl ⟨h0, rfl⟩⟩
  by_cases h1 : P1 l
  · by_cases h2 : P2 l
    · by_cases h3 : P3 l
      · exact ⟨0, .inr (.inr (.inr (.inr ⟨h0, h1, h2, h3, rfl⟩)))⟩
      · exact ⟨8, .inr (.inr (.inr (.inl ⟨h0, h1, h2, h3, rfl⟩)))⟩
    · exact ⟨6, .inr (.inr (.inl ⟨h0, h1, h2, rfl⟩))⟩
  · exact ⟨7, .inr (.inl ⟨h0, h1, rfl⟩)⟩
section
variable {age ref keep r : Int} {l : List (Int × Int)}
theorem Chk.bad (h : Chk age ref keep l r) (h0 : badSt age ref keep) : r = 2 := by
  rcases h with h | h | h | h | h
  · exact h.2
  all_goals exact absurd h0 h.1
theorem Chk.rng (h : Chk age ref keep l r) (h0 : ¬ badSt age ref keep) (h1 : ¬ P1 l) : r = 7 := by
  rcases h with h | h | h | h | h
  · exact absurd h.1 h0
  · exact h.2.2
  all_goals exact absurd h.2.1 h1
theorem Chk.form (h : Chk age ref keep l r) (h0 : ¬ badSt age ref keep) (h1 : P1 l) (h2 : ¬ P2 l) : r = 6 := by
  rcases h with h | h | h | h | h
  · exact absurd h.1 h0
  · exact absurd h1 h.2.1
  · exact h.2.2.2
  all_goals exact absurd h.2.2.1 h2
theorem Chk.twice (h : Chk age ref keep l r) (h0 : ¬ badSt age ref keep) (h1 : P1 l) (h2 : P2 l) (h3 : ¬ P3 l) : r = 8 := by
  rcases h with h | h | h | h | h
  · exact absurd h.1 h0
  · exact absurd h1 h.2.1
  · exact absurd h2 h.2.2.1
  · exact h.2.2.2.2
  · exact absurd h.2.2.2.1 h3
theorem Chk.fine (h : Chk age ref keep l r) (h0 : ¬ badSt age ref keep) (h1 : P1 l) (h2 : P2 l) (h3 : P3 l) : r = 0 := by
  rcases h with h | h | h | h | h
  · exact absurd h.1 h0
  · exact absurd h1 h.2.1
  · exact absurd h2 h.2.2.1
  · exact absurd h3 h.2.2.2.1
  · exact h.2.2.2.2
end
theorem ord_le {a b : Int × Int} : ordI a.1 a.2 b.1 b.2 ≤ 0 ↔ ¬ ltP b a := by
  rw [ltP_iff]
  unfold ordI sgn
  repeat' split
  all_goals omega
def S2 (l : List (Int × Int)) (i : Nat) : Prop := ∀ j, j + 1 < i → ¬ ltP (nth d0 l (j + 1)) (nth d0 l j)
def T3 (l : List (Int × Int)) (i : Nat) : Prop := ∃ j k, j < k ∧ k < i ∧ (nth d0 l j).1 = (nth d0 l k).1
def S4 (l : List (Int × Int)) (i : Nat) (M : Nat → Bool) : Prop := ∀ p : Nat, M p = true ↔ ∃ j, j < i ∧ (nth d0 l j).1 = (p : Int)
/-! A block of truth values. -/
def updB (M : Nat → Bool) (i : Nat) (v : Bool) : Nat → Bool := fun j => if j = i then v else M j
def memT (n : Nat) (M : Nat → Bool) : List AV := (List.range n).map fun k => .bool (M k)
theorem memT_len (n : Nat) (M : Nat → Bool) : (memT n M).length = n := by simp [memT]
theorem memT_get {n : Nat} {M : Nat → Bool} {i : Nat} (h : i < n) : (memT n M)[i]? = some (.bool (M i)) := by simp [memT, h]
theorem memT_set (n : Nat) (M : Nat → Bool) (i : Nat) (v : Bool) : (memT n M).set i (.bool v) = memT n (updB M i v) := by
  refine List.ext_getElem (by simp [memT]) fun j h1 h2 => ?_
  simp only [memT, List.getElem_set, List.getElem_map, List.getElem_range, updB]
  by_cases e : i = j
  · subst e; simp
  · rw [if_neg e, if_neg (fun h => e h.symm)]
theorem memT_plain (n : Nat) (M : Nat → Bool) : ∀ x ∈ memT n M, Plain x := fun x hx => by obtain ⟨p, _, rfl⟩ := List.mem_map.1 hx; exact plain_bool
theorem memT_rep (n : Nat) : List.replicate n (AV.bool false) = memT n fun _ => false := by
  unfold memT; rw [List.map_const', List.length_range]
theorem memT_make (n : Nat) : (List.replicate n [AV.bool false]).flatten = memT n fun _ => false := by
  refine List.ext_getElem (by simp [memT]) fun j h1 h2 => ?_
  simp [memT, List.flatten_replicate_singleton]
section
variable {l : List (Int × Int)} {i p : Nat} {M : Nat → Bool}
theorem S2_0 : S2 l 0 := fun j h => by omega
theorem S2_1 : S2 l (0 + 1) := fun j h => by omega
theorem S2_s : S2 l (i + 1 + 1) ↔ S2 l (i + 1) ∧ ¬ ltP (nth d0 l (i + 1)) (nth d0 l i) := by
  constructor
  · intro h; exact ⟨fun j hj => h j (by omega), h i (by omega)⟩
  · rintro ⟨h1, h2⟩ j hj
    by_cases e : j = i
    · subst e; exact h2
    · exact h1 j (by omega)
theorem T3_0 : ¬ T3 l 0 := fun ⟨_, _, _, h, _⟩ => by omega
theorem T3_s (hp : (nth d0 l i).1 = (p : Int)) (h4 : S4 l i M) : T3 l (i + 1) ↔ T3 l i ∨ M p = true := by
  rw [h4 p]
  constructor
  · rintro ⟨j, k, h1, h2, h3⟩
    by_cases e : k = i
    · subst e; exact .inr ⟨j, h1, h3.trans hp⟩
    · exact .inl ⟨j, k, h1, by omega, h3⟩
  · rintro (⟨j, k, h1, h2, h3⟩ | ⟨j, h1, h3⟩)
    · exact ⟨j, k, h1, by omega, h3⟩
    · exact ⟨j, i, h1, by omega, h3.trans hp.symm⟩
theorem S4_0 : S4 l 0 fun _ => false := fun p => by
  constructor
  · intro h; cases h
  · rintro ⟨_, h, _⟩; omega
theorem S4_s (hp : (nth d0 l i).1 = (p : Int)) (h4 : S4 l i M) : S4 l (i + 1) (updB M p true) := fun q => by
  unfold updB
  by_cases e : q = p
  · subst e
    rw [if_pos rfl]
    exact ⟨fun _ => ⟨i, by omega, hp⟩, fun _ => rfl⟩
  · rw [if_neg e, h4 q]
    constructor
    · rintro ⟨j, h1, h2⟩; exact ⟨j, by omega, h2⟩
    · rintro ⟨j, h1, h2⟩
      by_cases ej : j = i
      · subst ej; rw [hp] at h2; exact absurd (show q = p by omega) e
      · exact ⟨j, by omega, h2⟩
theorem T3_all : T3 l l.length ↔ ¬ P3 l := by
  constructor
  · rintro ⟨j, k, h1, h2, h3⟩ h; exact h j k h1 h2 h3
  · intro h
    exact Classical.byContradiction fun hn => h fun j k h1 h2 h3 => hn ⟨j, k, h1, h2, h3⟩
end
end Go.Pol
namespace Go.Proofs.Ytggkpagngnnjjaa
open Go Go.Am Go.Pol
theorem wkx_Qd {p : Prop} (h : p := by (refine weak_s (by exact oneOf_of rfl) (by exact subH_of rfl) (by intro hs; (repeat' ((try (conv => whnf)); first | with_reducible exact True.intro | with_reducible refine And.intro ?_ ?_ | (with_reducible refine WkX.mk ?_; first | exact wk_int (by first | rfl | omega | (dsimp only; omega)) | exact wk_bool rfl | exact wk_ptr rfl (by first | decide | omega | simp) | exact wk_sl rfl (by first | decide | omega | simp) (by first | rfl | omega | simp) (by first | omega | simp) (by first | omega | simp) | exact wk_bool (by first | (simp; done) | fail) | exact wk_plain hs (by (first | assumption | exact plain_int | exact plain_bool | exact plain_undef | exact plain_nils | exact plain_nilp | exact plain_nilf | exact plain_str | with_reducible apply plain_pg | with_reducible apply plain_pgs | with_reducible apply plain_pgA)))))) (by intro hs; (try dsimp only); (repeat' (first | with_reducible exact wko_nil | refine wko_plain hs (by first | decide | omega | simp) rfl (by first | rfl | exact memT_rep _) (by (first | with_reducible assumption | with_reducible apply memT_plain _ _ | with_reducible apply pgA_plain _ | with_reducible apply plain_map (fun _ => plain_int) | with_reducible apply plain_map (fun _ => plain_bool) | ((repeat' (first | exact plain_all0 | refine plain_all2 ?_ ?_ | exact plain_int | first | assumption | exact plain_int | exact plain_bool | exact plain_undef | exact plain_nils | exact plain_nilp | exact plain_nilf | exact plain_str | with_reducible apply plain_pg | with_reducible apply plain_pgs | with_reducible apply plain_pgA)); done) | ((refine plain_app ?_ ?_) <;> (first | with_reducible assumption | with_reducible apply memT_plain _ _ | with_reducible apply pgA_plain _ | with_reducible apply plain_map (fun _ => plain_int) | with_reducible apply plain_map (fun _ => plain_bool) | ((repeat' (first | exact plain_all0 | refine plain_all2 ?_ ?_ | exact plain_int | first | assumption | exact plain_int | exact plain_bool | exact plain_undef | exact plain_nils | exact plain_nilp | exact plain_nilf | exact plain_str | with_reducible apply plain_pg | with_reducible apply plain_pgs | with_reducible apply plain_pgA)); done))))) ?_ | refine wko_cells (by first | decide | omega | simp) rfl (by repeat' (first | with_reducible exact wkl_nil | with_reducible refine wkl_cons ?_ ?_ | (first | exact wk_int (by first | rfl | omega | (dsimp only; omega)) | exact wk_bool rfl | exact wk_ptr rfl (by first | decide | omega | simp) | exact wk_sl rfl (by first | decide | omega | simp) (by first | rfl | omega | simp) (by first | omega | simp) (by first | omega | simp) | exact wk_bool (by first | (simp; done) | fail) | exact wk_plain hs (by (first | assumption | exact plain_int | exact plain_bool | exact plain_undef | exact plain_nils | exact plain_nilp | exact plain_nilf | exact plain_str | with_reducible apply plain_pg | with_reducible apply plain_pgs | with_reducible apply plain_pgA))))) ?_ | exact wko_nil))))) : p := h
theorem el_m1 {els : List (List AV)} {i sz : Nat} {K : List AV → Prop} (h : ElX els i sz K) : ElX els ((((i + 1 : Nat) : Int) - 1).toNat) sz K := by
  rw [show (((i + 1 : Nat) : Int) - 1).toNat = i by omega]; exact h
section
variable {age ref keep r : Int} {l : List (Int × Int)}
set_option maxHeartbeats 1600000 in
set_option maxRecDepth 20000 in
theorem k_check (h : Chk age ref keep l r) (hl : l.length ≤ 100000) : PureC Try.prog G0 18 [stP age ref keep l] (.int .i64 r) := by
  have hpol := k_policy age keep
  refine pure_x hmix b18 plainG ⟨plain_stP, trivial⟩ plain_int rfl ?_
  unfold c18 stP
  by_cases hb : badSt age ref keep
  · have hr := h.bad hb
    subst hr
    unfold badSt at hb
    by_cases h2 : age < 0 ∨ 1000000000000 < age ∨ keep < 0 ∨ 1024 < keep
    · rw [if_pos h2] at hpol
      ((repeat' ((try (conv => whnf)); first | (with_reducible first | refine run_cons ?_ | refine runq_cons ?_ | refine code_seq ?_ | refine code_reg ?_ | refine code_cond ?_ | refine run_nil ?_ | refine runq_nil ?_ | refine rund_op rfl ?_ | refine rund_nil ?_ | refine code_block ?_ | refine code_skip ?_ | refine code_exit ?_ | refine code_ret ?_ | refine code_range ?_ | refine rund_fast (by decide +kernel) ?_ | refine rund_slow (by decide +kernel) ?_ | refine br_tt ?_ | refine br_ff ?_ | refine br_n ?_ | refine br_and ?_ | refine br_or ?_ | refine br_t (by assumption) ?_ | refine br_f (by assumption) ?_ | refine eq_i64 (by omega) ?_ | refine el_tn ?_) | (with_reducible refine br_d ?_ ?_ <;> intro hsp <;> first | (exfalso; omega) | skip) | ((with_reducible refine ck_x ?_ ?_); focus (first | omega | rfl | assumption | decide | (simp only [List.length_map, List.length_cons, List.length_nil]; omega))) | (with_reducible first | refine eq_tn ?_ | refine eq_tn1 ?_ | refine eq_tn2 ?_ | refine eq_m1 ?_ | refine eq_m2 ?_ | refine eq_zm ?_ | refine eq_z ?_ | refine len_map ?_ | refine len_sl ?_ | refine len_nils ?_ | refine len_own' ?_ | refine len_isl ?_ | refine eq_u8 (by omega) ?_ | refine eq_u16 (by omega) ?_) | (with_reducible first | refine eq_rfl ?_ | refine ChkX.mk (by kernel_rfl) ?_ | refine code_q rfl ?_ | refine code_d (by decide +kernel) ?_ | refine end_go rfl ?_) | refine cx_pure (hpol) ?_ | refine qcx (hpol) ?_ | refine dcx_pure (hpol) ?_ | refine len_map ?_ | refine len_isl ?_ | refine el_of rfl rfl ?_ | refine del_own ?_ | refine del_own' rfl ?_ | refine as_go rfl ?_ | refine rd_go rfl ?_ | refine rg_end rfl ?_ | refine flat_ownX ?_ | (with_reducible refine br_b ?_ ?_ <;> intro hsp))) <;> (try (conv => whnf)))
      all_goals exact end_plain rfl plain_int
    · rw [if_neg h2] at hpol
      ((repeat' ((try (conv => whnf)); first | (with_reducible first | refine run_cons ?_ | refine runq_cons ?_ | refine code_seq ?_ | refine code_reg ?_ | refine code_cond ?_ | refine run_nil ?_ | refine runq_nil ?_ | refine rund_op rfl ?_ | refine rund_nil ?_ | refine code_block ?_ | refine code_skip ?_ | refine code_exit ?_ | refine code_ret ?_ | refine code_range ?_ | refine rund_fast (by decide +kernel) ?_ | refine rund_slow (by decide +kernel) ?_ | refine br_tt ?_ | refine br_ff ?_ | refine br_n ?_ | refine br_and ?_ | refine br_or ?_ | refine br_t (by assumption) ?_ | refine br_f (by assumption) ?_ | refine eq_i64 (by omega) ?_ | refine el_tn ?_) | (with_reducible refine br_d ?_ ?_ <;> intro hsp <;> first | (exfalso; omega) | skip) | ((with_reducible refine ck_x ?_ ?_); focus (first | omega | rfl | assumption | decide | (simp only [List.length_map, List.length_cons, List.length_nil]; omega))) | (with_reducible first | refine eq_tn ?_ | refine eq_tn1 ?_ | refine eq_tn2 ?_ | refine eq_m1 ?_ | refine eq_m2 ?_ | refine eq_zm ?_ | refine eq_z ?_ | refine len_map ?_ | refine len_sl ?_ | refine len_nils ?_ | refine len_own' ?_ | refine len_isl ?_ | refine eq_u8 (by omega) ?_ | refine eq_u16 (by omega) ?_) | (with_reducible first | refine eq_rfl ?_ | refine ChkX.mk (by kernel_rfl) ?_ | refine code_q rfl ?_ | refine code_d (by decide +kernel) ?_ | refine end_go rfl ?_) | refine cx_pure (hpol) ?_ | refine qcx (hpol) ?_ | refine dcx_pure (hpol) ?_ | refine len_map ?_ | refine len_isl ?_ | refine el_of rfl rfl ?_ | refine del_own ?_ | refine del_own' rfl ?_ | refine as_go rfl ?_ | refine rd_go rfl ?_ | refine rg_end rfl ?_ | refine flat_ownX ?_ | (with_reducible refine br_b ?_ ?_ <;> intro hsp))) <;> (try (conv => whnf)))
      all_goals exact end_plain rfl plain_int
  have hb' := hb
  unfold badSt at hb'
  rw [if_neg (by omega)] at hpol
  ((repeat' ((try (conv => whnf)); first | (with_reducible first | refine run_cons ?_ | refine runq_cons ?_ | refine code_seq ?_ | refine code_reg ?_ | refine code_cond ?_ | refine run_nil ?_ | refine runq_nil ?_ | refine rund_op rfl ?_ | refine rund_nil ?_ | refine code_block ?_ | refine code_skip ?_ | refine code_exit ?_ | refine code_ret ?_ | refine code_range ?_ | refine rund_fast (by decide +kernel) ?_ | refine rund_slow (by decide +kernel) ?_ | refine br_tt ?_ | refine br_ff ?_ | refine br_n ?_ | refine br_and ?_ | refine br_or ?_ | refine br_t (by assumption) ?_ | refine br_f (by assumption) ?_ | refine eq_i64 (by omega) ?_ | refine el_tn ?_) | (with_reducible refine br_d ?_ ?_ <;> intro hsp <;> first | (exfalso; omega) | skip) | ((with_reducible refine ck_x ?_ ?_); focus (first | omega | rfl | assumption | decide | (simp only [List.length_map, List.length_cons, List.length_nil]; omega))) | (with_reducible first | refine eq_tn ?_ | refine eq_tn1 ?_ | refine eq_tn2 ?_ | refine eq_m1 ?_ | refine eq_m2 ?_ | refine eq_zm ?_ | refine eq_z ?_ | refine len_map ?_ | refine len_sl ?_ | refine len_nils ?_ | refine len_own' ?_ | refine len_isl ?_ | refine eq_u8 (by omega) ?_ | refine eq_u16 (by omega) ?_) | (with_reducible first | refine eq_rfl ?_ | refine ChkX.mk (by kernel_rfl) ?_ | refine code_q rfl ?_ | refine code_d (by decide +kernel) ?_ | refine end_go rfl ?_) | refine cx_pure (hpol) ?_ | refine qcx (hpol) ?_ | refine dcx_pure (hpol) ?_ | refine len_map ?_ | refine len_isl ?_ | refine el_of rfl rfl ?_ | refine del_own ?_ | refine del_own' rfl ?_ | refine as_go rfl ?_ | refine rd_go rfl ?_ | refine rg_end rfl ?_ | refine flat_ownX ?_ | (with_reducible refine br_b ?_ ?_ <;> intro hsp))) <;> (try (conv => whnf)))
  (refine loop_x [1, 22] (fun (q : Nat × Bool × Bool × (Nat → Bool)) => [(4, .ptr 1 0), (5, .bool q.2.1), (6, .bool q.2.2.1), (23, .int .i64 (l.length : Nat)), (24, .int .i64 (q.1 : Nat))]) (fun (q : Nat × Bool × Bool × (Nat → Bool)) => ⟨[(0, .cells [.int .i64 age, .int .i64 ref, .int .i64 keep, .isl (l.map pgA)]), (1, .cells (memT 1024 q.2.2.2))], 2⟩) (fun (q : Nat × Bool × Bool × (Nat → Bool)) => q.1 ≤ l.length ∧ (∀ j, j < q.1 → okPg (nth d0 l j)) ∧ (q.2.1 = true ↔ S2 l q.1) ∧ (q.2.2.1 = true ↔ T3 l q.1) ∧ S4 l q.1 q.2.2.2) (fun (q : Nat × Bool × Bool × (Nat → Bool)) => l.length - q.1) ((0, true, false, fun _ => false)) [] rfl (fun _ => by first | exact Nat.zero_le _ | (dsimp only; omega)) ?_ (by ((try (conv => whnf)); exact wkx_Qd)) ?_)
  · exact ⟨Nat.zero_le _, fun j hj => (by cases hj), ⟨fun _ => S2_0, fun _ => rfl⟩, ⟨fun h => (by cases h), fun h => absurd h T3_0⟩, S4_0⟩
  rintro ⟨i, b1, b2, M⟩ ⟨hi, h1, h2, h3, h4⟩
  dsimp only at hi h1 h2 h3 h4 ⊢
  by_cases hil : i < l.length
  · have hk := k_page (nth d0 l i).1 (nth d0 l i).2
    by_cases hok : okPg (nth d0 l i)
    · obtain ⟨p, st, ha⟩ : ∃ (p : Nat) (st : Int), nth d0 l i = ((p : Int), st) := ⟨(nth d0 l i).1.toNat, (nth d0 l i).2, by
        have := hok.1
        refine Prod.ext ?_ rfl
        show (nth d0 l i).1 = (((nth d0 l i).1.toNat : Nat) : Int)
        omega⟩
      have hp : (nth d0 l i).1 = (p : Int) := by rw [ha]
      have hok' := hok
      rw [ha] at hok hk
      obtain ⟨o1, o2, o3, o4⟩ := hok
      dsimp only at o1 o2 o3 o4 hk
      rw [if_neg (by omega)] at hk
      have hpl : p < 1024 := by omega
      have g := memT_get (M := M) hpl
      have hT := T3_s hp h4
      have h4' := S4_s hp h4
      have h1' : ∀ j, j < i + 1 → okPg (nth d0 l j) := fun j hj => by
        by_cases e : j = i
        · subst e; exact hok'
        · exact h1 j (by omega)
      cases i with
      | zero =>
        obtain rfl : b1 = true := h2.2 S2_0
        obtain rfl : b2 = false := by
          cases b2 with
          | false => rfl
          | true => exact absurd (h3.1 rfl) T3_0
        ((repeat' ((try (conv => whnf)); first | (with_reducible first | refine run_cons ?_ | refine runq_cons ?_ | refine code_seq ?_ | refine code_reg ?_ | refine code_cond ?_ | refine run_nil ?_ | refine runq_nil ?_ | refine rund_op rfl ?_ | refine rund_nil ?_ | refine code_block ?_ | refine code_skip ?_ | refine code_exit ?_ | refine code_ret ?_ | refine code_range ?_ | refine rund_fast (by decide +kernel) ?_ | refine rund_slow (by decide +kernel) ?_ | refine br_tt ?_ | refine br_ff ?_ | refine br_n ?_ | refine br_and ?_ | refine br_or ?_ | refine br_t (by assumption) ?_ | refine br_f (by assumption) ?_ | refine eq_i64 (by omega) ?_ | refine el_tn ?_) | (with_reducible refine br_d ?_ ?_ <;> intro hsp <;> first | (exfalso; omega) | skip) | ((with_reducible refine ck_x ?_ ?_); focus (first | omega | rfl | assumption | decide | (simp only [List.length_map, List.length_cons, List.length_nil]; omega))) | (with_reducible first | refine eq_tn ?_ | refine eq_tn1 ?_ | refine eq_tn2 ?_ | refine eq_m1 ?_ | refine eq_m2 ?_ | refine eq_zm ?_ | refine eq_z ?_ | refine len_map ?_ | refine len_sl ?_ | refine len_nils ?_ | refine len_own' ?_ | refine len_isl ?_ | refine eq_u8 (by omega) ?_ | refine eq_u16 (by omega) ?_) | refine el_mapE pg_len hil ha ?_ | refine nthK_of (g) ?_ | refine set1K_of (by rw [memT_len]; omega) (memT_set ..) ?_ | (with_reducible first | refine eq_rfl ?_ | refine ChkX.mk (by kernel_rfl) ?_ | refine code_q rfl ?_ | refine code_d (by decide +kernel) ?_ | refine end_go rfl ?_) | refine cx_pure (hk) ?_ | refine qcx (hk) ?_ | refine dcx_pure (hk) ?_ | refine len_map ?_ | refine len_isl ?_ | refine el_of rfl rfl ?_ | refine del_own ?_ | refine del_own' rfl ?_ | refine as_go rfl ?_ | refine rd_go rfl ?_ | refine rg_end rfl ?_ | refine flat_ownX ?_ | (with_reducible refine br_b ?_ ?_ <;> intro hsp))) <;> (try (conv => whnf)))
        exact next_x (0 + 1, true, M p, updB M p true) [] ⟨by dsimp only; omega, h1', ⟨fun _ => S2_1, fun _ => rfl⟩, ⟨fun hh => hT.2 (.inr hh), fun hh => (hT.1 hh).resolve_left T3_0⟩, h4'⟩ (by first | omega | (dsimp only; omega)) rfl (by exact wkx_Qd)
      | succ i =>
        have ho := k_order (nth d0 l i).1 (nth d0 l i).2 (p : Int) st
        have hil' : i < l.length := by omega
        have hle : ordI (nth d0 l i).1 (nth d0 l i).2 (p : Int) st ≤ 0 ↔ ¬ ltP (nth d0 l (i + 1)) (nth d0 l i) := by
          have := ord_le (a := nth d0 l i) (b := nth d0 l (i + 1))
          rw [ha] at this ⊢
          exact this
        cases b1
        · cases b2
          · ((repeat' ((try (conv => whnf)); first | (with_reducible first | refine run_cons ?_ | refine runq_cons ?_ | refine code_seq ?_ | refine code_reg ?_ | refine code_cond ?_ | refine run_nil ?_ | refine runq_nil ?_ | refine rund_op rfl ?_ | refine rund_nil ?_ | refine code_block ?_ | refine code_skip ?_ | refine code_exit ?_ | refine code_ret ?_ | refine code_range ?_ | refine rund_fast (by decide +kernel) ?_ | refine rund_slow (by decide +kernel) ?_ | refine br_tt ?_ | refine br_ff ?_ | refine br_n ?_ | refine br_and ?_ | refine br_or ?_ | refine br_t (by assumption) ?_ | refine br_f (by assumption) ?_ | refine eq_i64 (by omega) ?_ | refine el_tn ?_) | (with_reducible refine br_d ?_ ?_ <;> intro hsp <;> first | (exfalso; omega) | skip) | ((with_reducible refine ck_x ?_ ?_); focus (first | omega | rfl | assumption | decide | (simp only [List.length_map, List.length_cons, List.length_nil]; omega))) | (with_reducible first | refine eq_tn ?_ | refine eq_tn1 ?_ | refine eq_tn2 ?_ | refine eq_m1 ?_ | refine eq_m2 ?_ | refine eq_zm ?_ | refine eq_z ?_ | refine len_map ?_ | refine len_sl ?_ | refine len_nils ?_ | refine len_own' ?_ | refine len_isl ?_ | refine eq_u8 (by omega) ?_ | refine eq_u16 (by omega) ?_) | refine el_m1 ?_ | refine el_mapE pg_len hil ha ?_ | refine el_map d0 pg_len hil' ?_ | refine nthK_of (g) ?_ | refine set1K_of (by rw [memT_len]; omega) (memT_set ..) ?_ | (with_reducible first | refine eq_rfl ?_ | refine ChkX.mk (by kernel_rfl) ?_ | refine code_q rfl ?_ | refine code_d (by decide +kernel) ?_ | refine end_go rfl ?_) | refine cx_pure (hk) ?_ | refine qcx (hk) ?_ | refine dcx_pure (hk) ?_ | refine cx_pure (ho) ?_ | refine qcx (ho) ?_ | refine dcx_pure (ho) ?_ | refine len_map ?_ | refine len_isl ?_ | refine el_of rfl rfl ?_ | refine del_own ?_ | refine del_own' rfl ?_ | refine as_go rfl ?_ | refine rd_go rfl ?_ | refine rg_end rfl ?_ | refine flat_ownX ?_ | (with_reducible refine br_b ?_ ?_ <;> intro hsp))) <;> (try (conv => whnf)))
            all_goals exact next_x (i + 1 + 1, false, M p, updB M p true) [] ⟨by dsimp only; omega, h1', ⟨fun hh => (by cases hh), fun hh => h2.2 (S2_s.1 hh).1⟩, ⟨fun hh => hT.2 (.inr hh), fun hh => (hT.1 hh).resolve_left fun h5 => (by have := h3.2 h5; cases this)⟩, h4'⟩ (by first | omega | (dsimp only; omega)) rfl (by exact wkx_Qd)
          · ((repeat' ((try (conv => whnf)); first | (with_reducible first | refine run_cons ?_ | refine runq_cons ?_ | refine code_seq ?_ | refine code_reg ?_ | refine code_cond ?_ | refine run_nil ?_ | refine runq_nil ?_ | refine rund_op rfl ?_ | refine rund_nil ?_ | refine code_block ?_ | refine code_skip ?_ | refine code_exit ?_ | refine code_ret ?_ | refine code_range ?_ | refine rund_fast (by decide +kernel) ?_ | refine rund_slow (by decide +kernel) ?_ | refine br_tt ?_ | refine br_ff ?_ | refine br_n ?_ | refine br_and ?_ | refine br_or ?_ | refine br_t (by assumption) ?_ | refine br_f (by assumption) ?_ | refine eq_i64 (by omega) ?_ | refine el_tn ?_) | (with_reducible refine br_d ?_ ?_ <;> intro hsp <;> first | (exfalso; omega) | skip) | ((with_reducible refine ck_x ?_ ?_); focus (first | omega | rfl | assumption | decide | (simp only [List.length_map, List.length_cons, List.length_nil]; omega))) | (with_reducible first | refine eq_tn ?_ | refine eq_tn1 ?_ | refine eq_tn2 ?_ | refine eq_m1 ?_ | refine eq_m2 ?_ | refine eq_zm ?_ | refine eq_z ?_ | refine len_map ?_ | refine len_sl ?_ | refine len_nils ?_ | refine len_own' ?_ | refine len_isl ?_ | refine eq_u8 (by omega) ?_ | refine eq_u16 (by omega) ?_) | refine el_m1 ?_ | refine el_mapE pg_len hil ha ?_ | refine el_map d0 pg_len hil' ?_ | refine nthK_of (g) ?_ | refine set1K_of (by rw [memT_len]; omega) (memT_set ..) ?_ | (with_reducible first | refine eq_rfl ?_ | refine ChkX.mk (by kernel_rfl) ?_ | refine code_q rfl ?_ | refine code_d (by decide +kernel) ?_ | refine end_go rfl ?_) | refine cx_pure (hk) ?_ | refine qcx (hk) ?_ | refine dcx_pure (hk) ?_ | refine cx_pure (ho) ?_ | refine qcx (ho) ?_ | refine dcx_pure (ho) ?_ | refine len_map ?_ | refine len_isl ?_ | refine el_of rfl rfl ?_ | refine del_own ?_ | refine del_own' rfl ?_ | refine as_go rfl ?_ | refine rd_go rfl ?_ | refine rg_end rfl ?_ | refine flat_ownX ?_ | (with_reducible refine br_b ?_ ?_ <;> intro hsp))) <;> (try (conv => whnf)))
            all_goals exact next_x (i + 1 + 1, false, true, updB M p true) [] ⟨by dsimp only; omega, h1', ⟨fun hh => (by cases hh), fun hh => h2.2 (S2_s.1 hh).1⟩, ⟨fun _ => hT.2 (.inl (h3.1 rfl)), fun _ => rfl⟩, h4'⟩ (by first | omega | (dsimp only; omega)) rfl (by exact wkx_Qd)
        · cases b2
          · ((repeat' ((try (conv => whnf)); first | (with_reducible first | refine run_cons ?_ | refine runq_cons ?_ | refine code_seq ?_ | refine code_reg ?_ | refine code_cond ?_ | refine run_nil ?_ | refine runq_nil ?_ | refine rund_op rfl ?_ | refine rund_nil ?_ | refine code_block ?_ | refine code_skip ?_ | refine code_exit ?_ | refine code_ret ?_ | refine code_range ?_ | refine rund_fast (by decide +kernel) ?_ | refine rund_slow (by decide +kernel) ?_ | refine br_tt ?_ | refine br_ff ?_ | refine br_n ?_ | refine br_and ?_ | refine br_or ?_ | refine br_t (by assumption) ?_ | refine br_f (by assumption) ?_ | refine eq_i64 (by omega) ?_ | refine el_tn ?_) | (with_reducible refine br_d ?_ ?_ <;> intro hsp <;> first | (exfalso; omega) | skip) | ((with_reducible refine ck_x ?_ ?_); focus (first | omega | rfl | assumption | decide | (simp only [List.length_map, List.length_cons, List.length_nil]; omega))) | (with_reducible first | refine eq_tn ?_ | refine eq_tn1 ?_ | refine eq_tn2 ?_ | refine eq_m1 ?_ | refine eq_m2 ?_ | refine eq_zm ?_ | refine eq_z ?_ | refine len_map ?_ | refine len_sl ?_ | refine len_nils ?_ | refine len_own' ?_ | refine len_isl ?_ | refine eq_u8 (by omega) ?_ | refine eq_u16 (by omega) ?_) | refine el_m1 ?_ | refine el_mapE pg_len hil ha ?_ | refine el_map d0 pg_len hil' ?_ | refine nthK_of (g) ?_ | refine set1K_of (by rw [memT_len]; omega) (memT_set ..) ?_ | (with_reducible first | refine eq_rfl ?_ | refine ChkX.mk (by kernel_rfl) ?_ | refine code_q rfl ?_ | refine code_d (by decide +kernel) ?_ | refine end_go rfl ?_) | refine cx_pure (hk) ?_ | refine qcx (hk) ?_ | refine dcx_pure (hk) ?_ | refine cx_pure (ho) ?_ | refine qcx (ho) ?_ | refine dcx_pure (ho) ?_ | refine len_map ?_ | refine len_isl ?_ | refine el_of rfl rfl ?_ | refine del_own ?_ | refine del_own' rfl ?_ | refine as_go rfl ?_ | refine rd_go rfl ?_ | refine rg_end rfl ?_ | refine flat_ownX ?_ | (with_reducible refine br_b ?_ ?_ <;> intro hsp))) <;> (try (conv => whnf)))
            all_goals exact next_x (i + 1 + 1, decide (ordI (nth d0 l i).1 (nth d0 l i).2 (p : Int) st ≤ 0), M p, updB M p true) [] ⟨by dsimp only; omega, h1', ⟨fun hh => S2_s.2 ⟨h2.1 rfl, hle.1 (of_decide_eq_true hh)⟩, fun hh => decide_eq_true (hle.2 (S2_s.1 hh).2)⟩, ⟨fun hh => hT.2 (.inr hh), fun hh => (hT.1 hh).resolve_left fun h5 => (by have := h3.2 h5; cases this)⟩, h4'⟩ (by first | omega | (dsimp only; omega)) rfl (by exact wkx_Qd)
          · ((repeat' ((try (conv => whnf)); first | (with_reducible first | refine run_cons ?_ | refine runq_cons ?_ | refine code_seq ?_ | refine code_reg ?_ | refine code_cond ?_ | refine run_nil ?_ | refine runq_nil ?_ | refine rund_op rfl ?_ | refine rund_nil ?_ | refine code_block ?_ | refine code_skip ?_ | refine code_exit ?_ | refine code_ret ?_ | refine code_range ?_ | refine rund_fast (by decide +kernel) ?_ | refine rund_slow (by decide +kernel) ?_ | refine br_tt ?_ | refine br_ff ?_ | refine br_n ?_ | refine br_and ?_ | refine br_or ?_ | refine br_t (by assumption) ?_ | refine br_f (by assumption) ?_ | refine eq_i64 (by omega) ?_ | refine el_tn ?_) | (with_reducible refine br_d ?_ ?_ <;> intro hsp <;> first | (exfalso; omega) | skip) | ((with_reducible refine ck_x ?_ ?_); focus (first | omega | rfl | assumption | decide | (simp only [List.length_map, List.length_cons, List.length_nil]; omega))) | (with_reducible first | refine eq_tn ?_ | refine eq_tn1 ?_ | refine eq_tn2 ?_ | refine eq_m1 ?_ | refine eq_m2 ?_ | refine eq_zm ?_ | refine eq_z ?_ | refine len_map ?_ | refine len_sl ?_ | refine len_nils ?_ | refine len_own' ?_ | refine len_isl ?_ | refine eq_u8 (by omega) ?_ | refine eq_u16 (by omega) ?_) | refine el_m1 ?_ | refine el_mapE pg_len hil ha ?_ | refine el_map d0 pg_len hil' ?_ | refine nthK_of (g) ?_ | refine set1K_of (by rw [memT_len]; omega) (memT_set ..) ?_ | (with_reducible first | refine eq_rfl ?_ | refine ChkX.mk (by kernel_rfl) ?_ | refine code_q rfl ?_ | refine code_d (by decide +kernel) ?_ | refine end_go rfl ?_) | refine cx_pure (hk) ?_ | refine qcx (hk) ?_ | refine dcx_pure (hk) ?_ | refine cx_pure (ho) ?_ | refine qcx (ho) ?_ | refine dcx_pure (ho) ?_ | refine len_map ?_ | refine len_isl ?_ | refine el_of rfl rfl ?_ | refine del_own ?_ | refine del_own' rfl ?_ | refine as_go rfl ?_ | refine rd_go rfl ?_ | refine rg_end rfl ?_ | refine flat_ownX ?_ | (with_reducible refine br_b ?_ ?_ <;> intro hsp))) <;> (try (conv => whnf)))
            all_goals exact next_x (i + 1 + 1, decide (ordI (nth d0 l i).1 (nth d0 l i).2 (p : Int) st ≤ 0), true, updB M p true) [] ⟨by dsimp only; omega, h1', ⟨fun hh => S2_s.2 ⟨h2.1 rfl, hle.1 (of_decide_eq_true hh)⟩, fun hh => decide_eq_true (hle.2 (S2_s.1 hh).2)⟩, ⟨fun _ => hT.2 (.inl (h3.1 rfl)), fun _ => rfl⟩, h4'⟩ (by first | omega | (dsimp only; omega)) rfl (by exact wkx_Qd)
    · have hr := h.rng hb fun hP => hok (hP i hil)
      subst hr
      have hno := hok
      unfold okPg at hno
      rw [if_pos (by omega)] at hk
      ((repeat' ((try (conv => whnf)); first | (with_reducible first | refine run_cons ?_ | refine runq_cons ?_ | refine code_seq ?_ | refine code_reg ?_ | refine code_cond ?_ | refine run_nil ?_ | refine runq_nil ?_ | refine rund_op rfl ?_ | refine rund_nil ?_ | refine code_block ?_ | refine code_skip ?_ | refine code_exit ?_ | refine code_ret ?_ | refine code_range ?_ | refine rund_fast (by decide +kernel) ?_ | refine rund_slow (by decide +kernel) ?_ | refine br_tt ?_ | refine br_ff ?_ | refine br_n ?_ | refine br_and ?_ | refine br_or ?_ | refine br_t (by assumption) ?_ | refine br_f (by assumption) ?_ | refine eq_i64 (by omega) ?_ | refine el_tn ?_) | (with_reducible refine br_d ?_ ?_ <;> intro hsp <;> first | (exfalso; omega) | skip) | ((with_reducible refine ck_x ?_ ?_); focus (first | omega | rfl | assumption | decide | (simp only [List.length_map, List.length_cons, List.length_nil]; omega))) | (with_reducible first | refine eq_tn ?_ | refine eq_tn1 ?_ | refine eq_tn2 ?_ | refine eq_m1 ?_ | refine eq_m2 ?_ | refine eq_zm ?_ | refine eq_z ?_ | refine len_map ?_ | refine len_sl ?_ | refine len_nils ?_ | refine len_own' ?_ | refine len_isl ?_ | refine eq_u8 (by omega) ?_ | refine eq_u16 (by omega) ?_) | refine el_map d0 pg_len hil ?_ | (with_reducible first | refine eq_rfl ?_ | refine ChkX.mk (by kernel_rfl) ?_ | refine code_q rfl ?_ | refine code_d (by decide +kernel) ?_ | refine end_go rfl ?_) | refine cx_pure (hk) ?_ | refine qcx (hk) ?_ | refine dcx_pure (hk) ?_ | refine len_map ?_ | refine len_isl ?_ | refine el_of rfl rfl ?_ | refine del_own ?_ | refine del_own' rfl ?_ | refine as_go rfl ?_ | refine rd_go rfl ?_ | refine rg_end rfl ?_ | refine flat_ownX ?_ | (with_reducible refine br_b ?_ ?_ <;> intro hsp))) <;> (try (conv => whnf)))
      all_goals exact end_plain rfl plain_int
  · obtain rfl : i = l.length := by omega
    have hP1 : P1 l := h1
    have h2 : b1 = true ↔ P2 l := h2
    rw [T3_all] at h3
    cases b1 with
    | false =>
      have hr := h.form hb hP1 fun h5 => (by have := h2.2 h5; cases this)
      subst hr
      ((repeat' ((try (conv => whnf)); first | (with_reducible first | refine run_cons ?_ | refine runq_cons ?_ | refine code_seq ?_ | refine code_reg ?_ | refine code_cond ?_ | refine run_nil ?_ | refine runq_nil ?_ | refine rund_op rfl ?_ | refine rund_nil ?_ | refine code_block ?_ | refine code_skip ?_ | refine code_exit ?_ | refine code_ret ?_ | refine code_range ?_ | refine rund_fast (by decide +kernel) ?_ | refine rund_slow (by decide +kernel) ?_ | refine br_tt ?_ | refine br_ff ?_ | refine br_n ?_ | refine br_and ?_ | refine br_or ?_ | refine br_t (by assumption) ?_ | refine br_f (by assumption) ?_ | refine eq_i64 (by omega) ?_ | refine el_tn ?_) | (with_reducible refine br_d ?_ ?_ <;> intro hsp <;> first | (exfalso; omega) | skip) | ((with_reducible refine ck_x ?_ ?_); focus (first | omega | rfl | assumption | decide | (simp only [List.length_map, List.length_cons, List.length_nil]; omega))) | (with_reducible first | refine eq_tn ?_ | refine eq_tn1 ?_ | refine eq_tn2 ?_ | refine eq_m1 ?_ | refine eq_m2 ?_ | refine eq_zm ?_ | refine eq_z ?_ | refine len_map ?_ | refine len_sl ?_ | refine len_nils ?_ | refine len_own' ?_ | refine len_isl ?_ | refine eq_u8 (by omega) ?_ | refine eq_u16 (by omega) ?_) | (with_reducible first | refine eq_rfl ?_ | refine ChkX.mk (by kernel_rfl) ?_ | refine code_q rfl ?_ | refine code_d (by decide +kernel) ?_ | refine end_go rfl ?_) | refine len_map ?_ | refine len_isl ?_ | refine el_of rfl rfl ?_ | refine del_own ?_ | refine del_own' rfl ?_ | refine as_go rfl ?_ | refine rd_go rfl ?_ | refine rg_end rfl ?_ | refine flat_ownX ?_ | (with_reducible refine br_b ?_ ?_ <;> intro hsp))) <;> (try (conv => whnf)))
      all_goals exact end_plain rfl plain_int
    | true =>
      cases b2 with
      | true =>
        have hr := h.twice hb hP1 (h2.1 rfl) (h3.1 rfl)
        subst hr
        ((repeat' ((try (conv => whnf)); first | (with_reducible first | refine run_cons ?_ | refine runq_cons ?_ | refine code_seq ?_ | refine code_reg ?_ | refine code_cond ?_ | refine run_nil ?_ | refine runq_nil ?_ | refine rund_op rfl ?_ | refine rund_nil ?_ | refine code_block ?_ | refine code_skip ?_ | refine code_exit ?_ | refine code_ret ?_ | refine code_range ?_ | refine rund_fast (by decide +kernel) ?_ | refine rund_slow (by decide +kernel) ?_ | refine br_tt ?_ | refine br_ff ?_ | refine br_n ?_ | refine br_and ?_ | refine br_or ?_ | refine br_t (by assumption) ?_ | refine br_f (by assumption) ?_ | refine eq_i64 (by omega) ?_ | refine el_tn ?_) | (with_reducible refine br_d ?_ ?_ <;> intro hsp <;> first | (exfalso; omega) | skip) | ((with_reducible refine ck_x ?_ ?_); focus (first | omega | rfl | assumption | decide | (simp only [List.length_map, List.length_cons, List.length_nil]; omega))) | (with_reducible first | refine eq_tn ?_ | refine eq_tn1 ?_ | refine eq_tn2 ?_ | refine eq_m1 ?_ | refine eq_m2 ?_ | refine eq_zm ?_ | refine eq_z ?_ | refine len_map ?_ | refine len_sl ?_ | refine len_nils ?_ | refine len_own' ?_ | refine len_isl ?_ | refine eq_u8 (by omega) ?_ | refine eq_u16 (by omega) ?_) | (with_reducible first | refine eq_rfl ?_ | refine ChkX.mk (by kernel_rfl) ?_ | refine code_q rfl ?_ | refine code_d (by decide +kernel) ?_ | refine end_go rfl ?_) | refine len_map ?_ | refine len_isl ?_ | refine el_of rfl rfl ?_ | refine del_own ?_ | refine del_own' rfl ?_ | refine as_go rfl ?_ | refine rd_go rfl ?_ | refine rg_end rfl ?_ | refine flat_ownX ?_ | (with_reducible refine br_b ?_ ?_ <;> intro hsp))) <;> (try (conv => whnf)))
        all_goals exact end_plain rfl plain_int
      | false =>
        have hr := h.fine hb hP1 (h2.1 rfl) (Classical.byContradiction fun h5 => (by have := h3.2 h5; cases this))
        subst hr
        ((repeat' ((try (conv => whnf)); first | (with_reducible first | refine run_cons ?_ | refine runq_cons ?_ | refine code_seq ?_ | refine code_reg ?_ | refine code_cond ?_ | refine run_nil ?_ | refine runq_nil ?_ | refine rund_op rfl ?_ | refine rund_nil ?_ | refine code_block ?_ | refine code_skip ?_ | refine code_exit ?_ | refine code_ret ?_ | refine code_range ?_ | refine rund_fast (by decide +kernel) ?_ | refine rund_slow (by decide +kernel) ?_ | refine br_tt ?_ | refine br_ff ?_ | refine br_n ?_ | refine br_and ?_ | refine br_or ?_ | refine br_t (by assumption) ?_ | refine br_f (by assumption) ?_ | refine eq_i64 (by omega) ?_ | refine el_tn ?_) | (with_reducible refine br_d ?_ ?_ <;> intro hsp <;> first | (exfalso; omega) | skip) | ((with_reducible refine ck_x ?_ ?_); focus (first | omega | rfl | assumption | decide | (simp only [List.length_map, List.length_cons, List.length_nil]; omega))) | (with_reducible first | refine eq_tn ?_ | refine eq_tn1 ?_ | refine eq_tn2 ?_ | refine eq_m1 ?_ | refine eq_m2 ?_ | refine eq_zm ?_ | refine eq_z ?_ | refine len_map ?_ | refine len_sl ?_ | refine len_nils ?_ | refine len_own' ?_ | refine len_isl ?_ | refine eq_u8 (by omega) ?_ | refine eq_u16 (by omega) ?_) | (with_reducible first | refine eq_rfl ?_ | refine ChkX.mk (by kernel_rfl) ?_ | refine code_q rfl ?_ | refine code_d (by decide +kernel) ?_ | refine end_go rfl ?_) | refine len_map ?_ | refine len_isl ?_ | refine el_of rfl rfl ?_ | refine del_own ?_ | refine del_own' rfl ?_ | refine as_go rfl ?_ | refine rd_go rfl ?_ | refine rg_end rfl ?_ | refine flat_ownX ?_ | (with_reducible refine br_b ?_ ?_ <;> intro hsp))) <;> (try (conv => whnf)))
        all_goals exact end_plain rfl plain_int
end
end Go.Proofs.Ytggkpagngnnjjaa
