/-
  Check of both; Of and Same of the document.
-/
import Derived.Test.YtccbhbdbmmkcdaaAmWt
import Derived.Test.YtccbhbdbmmkcdaaShD
set_option linter.unusedSimpArgs false
set_option linter.unusedVariables false
namespace Go.Pol
open Go.Am
/-- A view as it is given: any numbers. -/
abbrev Rw := Int × Int × Int × Bool
def rwC (v : Rw) : List AV := [.int .i64 v.1, .int .i64 v.2.1, .int .i64 v.2.2.1, .bool v.2.2.2]
def dW : Rw := (0, 0, 0, false)
def rwV (v : Vw) : Rw := ((v.1 : Nat), (v.2.1 : Nat), (v.2.2.1 : Nat), v.2.2.2)
theorem rw_len (v : Rw) : (rwC v).length = 4 := rfl
theorem rw_plain {v : Rw} : ∀ x ∈ rwC v, Plain x := fun x hx => by
  simp only [rwC, List.mem_cons, List.not_mem_nil, or_false] at hx
  rcases hx with rfl | rfl | rfl | rfl <;> first | exact plain_int | exact plain_bool
theorem plain_rs {R : List Rw} : Plain (.isl (R.map rwC)) := plain_isl fun e he => by
  obtain ⟨v, _, rfl⟩ := List.mem_map.1 he; exact rw_plain
theorem plain_rsA {R : List Rw} : Plain (.agg [.isl (R.map rwC)]) := plain_agg fun x hx => by
  obtain rfl := List.mem_singleton.1 hx; exact plain_rs
theorem rw_map (L : List Vw) : (L.map rwV).map rwC = L.map vwC := by rw [List.map_map]; rfl
def okW (v : Rw) : Prop := (0 ≤ v.1 ∧ v.1 < 64) ∧ (0 ≤ v.2.1 ∧ v.2.1 < 1024) ∧ (0 ≤ v.2.2.1 ∧ v.2.2.1 < 1024)
instance (v : Rw) : Decidable (okW v) := by unfold okW; infer_instance
def befW (u v : Rw) : Prop := u.1 < v.1 ∨ (u.1 = v.1 ∧ u.2.1 < v.2.1)
instance (u v : Rw) : Decidable (befW u v) := by unfold befW; infer_instance
/-- What is wrong with a state: where, and the error. -/
inductive ChkR (R : List Rw) : Int → Int → Prop
  | big : 2000 < R.length → ChkR R 0 5
  | range (k : Nat) : R.length ≤ 2000 → k < R.length → (∀ j, j < k → okW (nth dW R j)) → ¬ okW (nth dW R k) → ChkR R (k : Nat) 7
  | pair (k : Nat) : R.length ≤ 2000 → 1 ≤ k → k < R.length → (∀ j, j < R.length → okW (nth dW R j)) → (∀ j, j + 1 < k → befW (nth dW R j) (nth dW R (j + 1))) → ¬ befW (nth dW R (k - 1)) (nth dW R k) → ChkR R (k : Nat) (if befW (nth dW R k) (nth dW R (k - 1)) then 6 else 8)
  | ok : R.length ≤ 2000 → (∀ j, j < R.length → okW (nth dW R j)) → (∀ j, j + 1 < R.length → befW (nth dW R j) (nth dW R (j + 1))) → ChkR R 0 0
theorem ChkR.uniq {R : List Rw} {i e i' e' : Int} (h : ChkR R i e) (h' : ChkR R i' e') : i = i' ∧ e = e' := by
  cases h with
  | big h1 => cases h' with
    | big h2 => exact ⟨rfl, rfl⟩
    | range k h2 => omega
    | pair k h2 => omega
    | ok h2 => omega
  | range k h1 h2 h3 h4 => cases h' with
    | big g1 => omega
    | range k' g1 g2 g3 g4 =>
      have : k = k' := by
        rcases Nat.lt_trichotomy k k' with h | h | h
        · exact absurd (g3 k h) h4
        · exact h
        · exact absurd (h3 k' h) g4
      subst this; exact ⟨rfl, rfl⟩
    | pair k' g1 g2 g3 g4 => exact absurd (g4 k h2) h4
    | ok g1 g2 => exact absurd (g2 k h2) h4
  | pair k h1 h2 h3 h4 h5 h6 => cases h' with
    | big g1 => omega
    | range k' g1 g2 g3 g4 => exact absurd (h4 k' g2) g4
    | pair k' g1 g2 g3 g4 g5 g6 =>
      have : k = k' := by
        rcases Nat.lt_trichotomy k k' with h | h | h
        · have := g5 (k - 1) (by omega); rw [show k - 1 + 1 = k by omega] at this; exact absurd this h6
        · exact h
        · have := h5 (k' - 1) (by omega); rw [show k' - 1 + 1 = k' by omega] at this; exact absurd this g6
      subst this; exact ⟨rfl, rfl⟩
    | ok g1 g2 g3 => have := g3 (k - 1) (by omega); rw [show k - 1 + 1 = k by omega] at this; exact absurd this h6
  | ok h1 h2 h3 => cases h' with
    | big g1 => omega
    | range k' g1 g2 g3 g4 => exact absurd (h2 k' g2) g4
    | pair k' g1 g2 g3 g4 g5 g6 => have := h3 (k' - 1) (by omega); rw [show k' - 1 + 1 = k' by omega] at this; exact absurd this g6
    | ok => exact ⟨rfl, rfl⟩
/-- There is always an answer. -/
theorem least_or {p : Nat → Prop} (n : Nat) : (∃ k, k < n ∧ (∀ j, j < k → p j) ∧ ¬ p k) ∨ ∀ j, j < n → p j := by
  induction n with
  | zero => exact .inr fun j hj => by omega
  | succ n ih =>
    rcases ih with ⟨k, h1, h2, h3⟩ | h
    · exact .inl ⟨k, by omega, h2, h3⟩
    · by_cases hp : p n
      · exact .inr fun j hj => by
          rcases Nat.lt_or_ge j n with h1 | h1
          · exact h j h1
          · obtain rfl : j = n := by omega
            exact hp
      · exact .inl ⟨n, by omega, h, hp⟩
theorem chk_ex (R : List Rw) : ∃ i e, ChkR R i e := by
  by_cases h : 2000 < R.length
  · exact ⟨_, _, .big h⟩
  · rcases least_or (p := fun j => okW (nth dW R j)) R.length with ⟨k, h1, h2, h3⟩ | ha
    · exact ⟨_, _, .range k (by omega) h1 h2 h3⟩
    · rcases least_or (p := fun j => befW (nth dW R j) (nth dW R (j + 1))) (R.length - 1) with ⟨k, h1, h2, h3⟩ | hb
      · exact ⟨_, _, .pair (k + 1) (by omega) (by omega) (by omega) ha (fun j hj => h2 j (by omega)) h3⟩
      · exact ⟨_, _, .ok (by omega) ha fun j hj => hb j (by omega)⟩
/-- A state without fault is a list of views. -/
theorem chk_views {R : List Rw} {i : Int} (h : ChkR R i 0) : ∃ L : List Vw, R = L.map rwV ∧ srt L ∧ L.length ≤ 2000 ∧ ∀ v ∈ L, v.1 < 64 ∧ v.2.1 < 1024 ∧ v.2.2.1 < 1024 := by
  have h0 : i = 0 ∧ R.length ≤ 2000 ∧ (∀ j, j < R.length → okW (nth dW R j)) ∧ (∀ j, j + 1 < R.length → befW (nth dW R j) (nth dW R (j + 1))) := by
    obtain ⟨i', e', h'⟩ := chk_ex R
    have hu := h.uniq h'
    cases h' with
    | big h1 => exact absurd hu.2 (by decide)
    | range k => exact absurd hu.2 (by decide)
    | pair k => exfalso; have := hu.2; split at this <;> omega
    | ok h1 h2 h3 => exact ⟨hu.1, h1, h2, h3⟩
  obtain ⟨_, h1, h2, h3⟩ := h0
  have key : R = (R.map fun v : Rw => ((v.1.toNat, v.2.1.toNat, v.2.2.1.toNat, v.2.2.2) : Vw)).map rwV := by
    rw [List.map_map]
    conv => lhs; rw [← List.map_id R]
    refine List.map_congr_left fun v hv => ?_
    obtain ⟨j, hj, rfl⟩ := List.mem_iff_getElem.1 hv
    have := h2 j hj
    rw [nth_get hj] at this
    generalize R[j] = w at *
    unfold okW at this
    refine Prod.ext ?_ (Prod.ext ?_ (Prod.ext ?_ rfl))
    · show w.1 = ((w.1.toNat : Nat) : Int); omega
    · show w.2.1 = ((w.2.1.toNat : Nat) : Int); omega
    · show w.2.2.1 = ((w.2.2.1.toNat : Nat) : Int); omega
  refine ⟨_, key, ?_, by rw [List.length_map]; exact h1, fun v hv => ?_⟩
  · have hp : R.Pairwise befW := by
      have tr : ∀ {u v w : Rw}, befW u v → befW v w → befW u w := fun {u v w} a b => by unfold befW at *; omega
      clear key h2 h h1
      induction R with
      | nil => exact List.Pairwise.nil
      | cons u R ih =>
        have ih' := ih fun j hj => h3 (j + 1) (by simpa using hj)
        refine List.pairwise_cons.2 ⟨fun v hv => ?_, ih'⟩
        cases R with
        | nil => cases hv
        | cons w R =>
          have h4 : befW u w := h3 0 (by simp)
          rcases List.mem_cons.1 hv with rfl | hv
          · exact h4
          · exact tr h4 ((List.pairwise_cons.1 ih').1 v hv)
    refine List.Pairwise.map _ (R := fun u v => befW u v ∧ okW u ∧ okW v) (fun u v huv => ?_) ?_
    · obtain ⟨h4, h5, h6⟩ := huv
      unfold befW at h4; unfold okW at h5 h6; unfold bef; dsimp only; omega
    · refine List.Pairwise.imp_of_mem (R := befW) (fun {u v} hu hv hb => ⟨hb, ?_, ?_⟩) hp
      · obtain ⟨j, hj, rfl⟩ := List.mem_iff_getElem.1 hu; have := h2 j hj; rwa [nth_get hj] at this
      · obtain ⟨j, hj, rfl⟩ := List.mem_iff_getElem.1 hv; have := h2 j hj; rwa [nth_get hj] at this
  · obtain ⟨w, hw, rfl⟩ := List.mem_map.1 hv
    obtain ⟨j, hj, rfl⟩ := List.mem_iff_getElem.1 hw
    have := h2 j hj
    rw [nth_get hj] at this
    unfold okW at this
    obtain ⟨⟨h4, h5⟩, ⟨h6, h7⟩, h8, h9⟩ := this
    refine ⟨?_, ?_, ?_⟩
    · show R[j].1.toNat < 64; omega
    · show R[j].2.1.toNat < 1024; omega
    · show R[j].2.2.1.toNat < 1024; omega
end Go.Pol
namespace Go.Proofs.Ytccbhbdbmmkcdaa.Sh
open Go Go.Am Go.Pol
theorem wkx_Ba {p : Prop} (h : p := by (refine weak_o (by rfl) (by rfl) (fun hz => by first | exact absurd rfl hz | (simp [lk, lk_ownE hz]; done) | exact lk_ownE hz | rfl) (by rfl) (vw_plain') (by intro hs; (repeat' ((try (conv => whnf)); first | with_reducible exact True.intro | with_reducible refine And.intro ?_ ?_ | (with_reducible refine WkX.mk ?_; first | exact wk_undef | exact wk_int (by first | rfl | omega | (dsimp only; omega)) | exact wk_bool rfl | exact wk_ptr rfl (by first | decide | simp | omega) | exact wk_sl rfl (by first | decide | simp | omega) (by first | rfl | omega | simp) (by first | omega | simp) (by first | omega | simp) | exact wk_own rfl (by first | decide | simp | omega) | exact wk_nil0 (by first | rfl | simp) | exact wk_slown rfl (by first | decide | omega | (simp; done)) (by first | omega | (simp; done)) (by first | rfl | omega | (simp; done) | (simp; omega)) | exact wk_plain hs (by (first | assumption | exact plain_int | exact plain_bool | exact plain_undef | exact plain_nils | exact plain_nilp | exact plain_nilf | exact plain_str | with_reducible apply plain_int | with_reducible apply plain_bool | with_reducible apply plain_vwC | with_reducible apply plain_vwE | with_reducible apply plain_vs | with_reducible apply plain_vsA | with_reducible apply plain_rs | with_reducible apply plain_rsA)) | (with_reducible refine wk_fn ?_ ?_ <;> repeat' (first | with_reducible exact wkl_nil | with_reducible refine wkl_cons ?_ ?_ | exact wk_ptr rfl (by first | decide | simp | omega))) | (with_reducible refine wk_agg ?_; repeat' (first | with_reducible exact wkl_nil | with_reducible refine wkl_cons ?_ ?_ | exact wk_int (by first | rfl | omega | (dsimp only; omega)) | exact wk_bool rfl)) | exact wk_yld rfl (by first | decide | simp | omega))))) (by intro hs; (repeat' (first | with_reducible exact wko_nil | refine wko_plain hs (by first | decide | omega | simp) rfl (by first | rfl) (by (first | with_reducible assumption | with_reducible apply vw_plain | with_reducible apply plain_flat vw_plain' | with_reducible apply rw_plain | with_reducible apply plain_map (fun _ => plain_int) | with_reducible apply plain_map (fun _ => plain_bool) | ((repeat' (first | exact plain_all0 | refine plain_all2 ?_ ?_ | exact plain_int | first | assumption | exact plain_int | exact plain_bool | exact plain_undef | exact plain_nils | exact plain_nilp | exact plain_nilf | exact plain_str | with_reducible apply plain_int | with_reducible apply plain_bool | with_reducible apply plain_vwC | with_reducible apply plain_vwE | with_reducible apply plain_vs | with_reducible apply plain_vsA | with_reducible apply plain_rs | with_reducible apply plain_rsA)); done) | ((refine plain_app ?_ ?_) <;> (first | with_reducible assumption | with_reducible apply vw_plain | with_reducible apply plain_flat vw_plain' | with_reducible apply rw_plain | with_reducible apply plain_map (fun _ => plain_int) | with_reducible apply plain_map (fun _ => plain_bool) | ((repeat' (first | exact plain_all0 | refine plain_all2 ?_ ?_ | exact plain_int | first | assumption | exact plain_int | exact plain_bool | exact plain_undef | exact plain_nils | exact plain_nilp | exact plain_nilf | exact plain_str | with_reducible apply plain_int | with_reducible apply plain_bool | with_reducible apply plain_vwC | with_reducible apply plain_vwE | with_reducible apply plain_vs | with_reducible apply plain_vsA | with_reducible apply plain_rs | with_reducible apply plain_rsA)); done))))) ?_ | refine wko_cells (by first | decide | omega | simp) rfl (by repeat' (first | with_reducible exact wkl_nil | with_reducible refine wkl_cons ?_ ?_ | (first | exact wk_undef | exact wk_int (by first | rfl | omega | (dsimp only; omega)) | exact wk_bool rfl | exact wk_ptr rfl (by first | decide | simp | omega) | exact wk_sl rfl (by first | decide | simp | omega) (by first | rfl | omega | simp) (by first | omega | simp) (by first | omega | simp) | exact wk_own rfl (by first | decide | simp | omega) | exact wk_nil0 (by first | rfl | simp) | exact wk_slown rfl (by first | decide | omega | (simp; done)) (by first | omega | (simp; done)) (by first | rfl | omega | (simp; done) | (simp; omega)) | exact wk_plain hs (by (first | assumption | exact plain_int | exact plain_bool | exact plain_undef | exact plain_nils | exact plain_nilp | exact plain_nilf | exact plain_str | with_reducible apply plain_int | with_reducible apply plain_bool | with_reducible apply plain_vwC | with_reducible apply plain_vwE | with_reducible apply plain_vs | with_reducible apply plain_vsA | with_reducible apply plain_rs | with_reducible apply plain_rsA)) | (with_reducible refine wk_fn ?_ ?_ <;> repeat' (first | with_reducible exact wkl_nil | with_reducible refine wkl_cons ?_ ?_ | exact wk_ptr rfl (by first | decide | simp | omega))) | (with_reducible refine wk_agg ?_; repeat' (first | with_reducible exact wkl_nil | with_reducible refine wkl_cons ?_ ?_ | exact wk_int (by first | rfl | omega | (dsimp only; omega)) | exact wk_bool rfl)) | exact wk_yld rfl (by first | decide | simp | omega)))) ?_ | refine wko_loop (by first | decide | omega | simp) rfl (by ((try subst hF); (try subst hF2); exact wkl_sd (wkf_sget (by (repeat' ((try (conv => whnf)); first | with_reducible exact True.intro | with_reducible refine And.intro ?_ ?_ | (with_reducible refine WkX.mk ?_; first | exact wk_undef | exact wk_int (by first | rfl | omega | (dsimp only; omega)) | exact wk_bool rfl | exact wk_ptr rfl (by first | decide | simp | omega) | exact wk_sl rfl (by first | decide | simp | omega) (by first | rfl | omega | simp) (by first | omega | simp) (by first | omega | simp) | exact wk_own rfl (by first | decide | simp | omega) | exact wk_nil0 (by first | rfl | simp) | exact wk_slown rfl (by first | decide | omega | (simp; done)) (by first | omega | (simp; done)) (by first | rfl | omega | (simp; done) | (simp; omega)) | exact wk_plain hs (by (first | assumption | exact plain_int | exact plain_bool | exact plain_undef | exact plain_nils | exact plain_nilp | exact plain_nilf | exact plain_str | with_reducible apply plain_int | with_reducible apply plain_bool | with_reducible apply plain_vwC | with_reducible apply plain_vwE | with_reducible apply plain_vs | with_reducible apply plain_vsA | with_reducible apply plain_rs | with_reducible apply plain_rsA)) | (with_reducible refine wk_fn ?_ ?_ <;> repeat' (first | with_reducible exact wkl_nil | with_reducible refine wkl_cons ?_ ?_ | exact wk_ptr rfl (by first | decide | simp | omega))) | (with_reducible refine wk_agg ?_; repeat' (first | with_reducible exact wkl_nil | with_reducible refine wkl_cons ?_ ?_ | exact wk_int (by first | rfl | omega | (dsimp only; omega)) | exact wk_bool rfl)) | exact wk_yld rfl (by first | decide | simp | omega)))))))) ?_ | exact wko_nil))))) : p := h
theorem wkx_Ba1 {p : Prop} (h : p := by (refine weak_s (by exact oneOf_of rfl) (by exact subH_of rfl) (by intro hs; (repeat' ((try (conv => whnf)); first | with_reducible exact True.intro | with_reducible refine And.intro ?_ ?_ | (with_reducible refine WkX.mk ?_; first | exact wk_undef | exact wk_int (by first | rfl | omega | (dsimp only; omega)) | exact wk_bool rfl | exact wk_ptr rfl (by first | decide | simp | omega) | exact wk_sl rfl (by first | decide | simp | omega) (by first | rfl | omega | simp) (by first | omega | simp) (by first | omega | simp) | exact wk_own rfl (by first | decide | simp | omega) | exact wk_nil0 (by first | rfl | simp) | exact wk_slown rfl (by first | decide | omega | (simp; done)) (by first | omega | (simp; done)) (by first | rfl | omega | (simp; done) | (simp; omega)) | exact wk_plain hs (by (first | assumption | exact plain_int | exact plain_bool | exact plain_undef | exact plain_nils | exact plain_nilp | exact plain_nilf | exact plain_str | with_reducible apply plain_int | with_reducible apply plain_bool | with_reducible apply plain_vwC | with_reducible apply plain_vwE | with_reducible apply plain_vs | with_reducible apply plain_vsA | with_reducible apply plain_rs | with_reducible apply plain_rsA)) | (with_reducible refine wk_fn ?_ ?_ <;> repeat' (first | with_reducible exact wkl_nil | with_reducible refine wkl_cons ?_ ?_ | exact wk_ptr rfl (by first | decide | simp | omega))) | (with_reducible refine wk_agg ?_; repeat' (first | with_reducible exact wkl_nil | with_reducible refine wkl_cons ?_ ?_ | exact wk_int (by first | rfl | omega | (dsimp only; omega)) | exact wk_bool rfl)) | exact wk_yld rfl (by first | decide | simp | omega))))) (by intro hs; (try dsimp only); (repeat' (first | with_reducible exact wko_nil | refine wko_plain hs (by first | decide | omega | simp) rfl (by first | rfl) (by (first | with_reducible assumption | with_reducible apply vw_plain | with_reducible apply plain_flat vw_plain' | with_reducible apply rw_plain | with_reducible apply plain_map (fun _ => plain_int) | with_reducible apply plain_map (fun _ => plain_bool) | ((repeat' (first | exact plain_all0 | refine plain_all2 ?_ ?_ | exact plain_int | first | assumption | exact plain_int | exact plain_bool | exact plain_undef | exact plain_nils | exact plain_nilp | exact plain_nilf | exact plain_str | with_reducible apply plain_int | with_reducible apply plain_bool | with_reducible apply plain_vwC | with_reducible apply plain_vwE | with_reducible apply plain_vs | with_reducible apply plain_vsA | with_reducible apply plain_rs | with_reducible apply plain_rsA)); done) | ((refine plain_app ?_ ?_) <;> (first | with_reducible assumption | with_reducible apply vw_plain | with_reducible apply plain_flat vw_plain' | with_reducible apply rw_plain | with_reducible apply plain_map (fun _ => plain_int) | with_reducible apply plain_map (fun _ => plain_bool) | ((repeat' (first | exact plain_all0 | refine plain_all2 ?_ ?_ | exact plain_int | first | assumption | exact plain_int | exact plain_bool | exact plain_undef | exact plain_nils | exact plain_nilp | exact plain_nilf | exact plain_str | with_reducible apply plain_int | with_reducible apply plain_bool | with_reducible apply plain_vwC | with_reducible apply plain_vwE | with_reducible apply plain_vs | with_reducible apply plain_vsA | with_reducible apply plain_rs | with_reducible apply plain_rsA)); done))))) ?_ | refine wko_cells (by first | decide | omega | simp) rfl (by repeat' (first | with_reducible exact wkl_nil | with_reducible refine wkl_cons ?_ ?_ | (first | exact wk_undef | exact wk_int (by first | rfl | omega | (dsimp only; omega)) | exact wk_bool rfl | exact wk_ptr rfl (by first | decide | simp | omega) | exact wk_sl rfl (by first | decide | simp | omega) (by first | rfl | omega | simp) (by first | omega | simp) (by first | omega | simp) | exact wk_own rfl (by first | decide | simp | omega) | exact wk_nil0 (by first | rfl | simp) | exact wk_slown rfl (by first | decide | omega | (simp; done)) (by first | omega | (simp; done)) (by first | rfl | omega | (simp; done) | (simp; omega)) | exact wk_plain hs (by (first | assumption | exact plain_int | exact plain_bool | exact plain_undef | exact plain_nils | exact plain_nilp | exact plain_nilf | exact plain_str | with_reducible apply plain_int | with_reducible apply plain_bool | with_reducible apply plain_vwC | with_reducible apply plain_vwE | with_reducible apply plain_vs | with_reducible apply plain_vsA | with_reducible apply plain_rs | with_reducible apply plain_rsA)) | (with_reducible refine wk_fn ?_ ?_ <;> repeat' (first | with_reducible exact wkl_nil | with_reducible refine wkl_cons ?_ ?_ | exact wk_ptr rfl (by first | decide | simp | omega))) | (with_reducible refine wk_agg ?_; repeat' (first | with_reducible exact wkl_nil | with_reducible refine wkl_cons ?_ ?_ | exact wk_int (by first | rfl | omega | (dsimp only; omega)) | exact wk_bool rfl)) | exact wk_yld rfl (by first | decide | simp | omega)))) ?_ | refine wko_loop (by first | decide | omega | simp) rfl (by ((try subst hF); (try subst hF2); exact wkl_sd (wkf_sget (by (repeat' ((try (conv => whnf)); first | with_reducible exact True.intro | with_reducible refine And.intro ?_ ?_ | (with_reducible refine WkX.mk ?_; first | exact wk_undef | exact wk_int (by first | rfl | omega | (dsimp only; omega)) | exact wk_bool rfl | exact wk_ptr rfl (by first | decide | simp | omega) | exact wk_sl rfl (by first | decide | simp | omega) (by first | rfl | omega | simp) (by first | omega | simp) (by first | omega | simp) | exact wk_own rfl (by first | decide | simp | omega) | exact wk_nil0 (by first | rfl | simp) | exact wk_slown rfl (by first | decide | omega | (simp; done)) (by first | omega | (simp; done)) (by first | rfl | omega | (simp; done) | (simp; omega)) | exact wk_plain hs (by (first | assumption | exact plain_int | exact plain_bool | exact plain_undef | exact plain_nils | exact plain_nilp | exact plain_nilf | exact plain_str | with_reducible apply plain_int | with_reducible apply plain_bool | with_reducible apply plain_vwC | with_reducible apply plain_vwE | with_reducible apply plain_vs | with_reducible apply plain_vsA | with_reducible apply plain_rs | with_reducible apply plain_rsA)) | (with_reducible refine wk_fn ?_ ?_ <;> repeat' (first | with_reducible exact wkl_nil | with_reducible refine wkl_cons ?_ ?_ | exact wk_ptr rfl (by first | decide | simp | omega))) | (with_reducible refine wk_agg ?_; repeat' (first | with_reducible exact wkl_nil | with_reducible refine wkl_cons ?_ ?_ | exact wk_int (by first | rfl | omega | (dsimp only; omega)) | exact wk_bool rfl)) | exact wk_yld rfl (by first | decide | simp | omega)))))))) ?_ | exact wko_nil))))) : p := h
theorem wx_Ba {p q : Prop} (hq : q) (h : HidP q → p := by (intro hQz; ((repeat' ((try (conv => whnf)); first | (with_reducible first | refine run_cons ?_ | refine runq_cons ?_ | refine code_seq ?_ | refine code_reg ?_ | refine code_cond ?_ | refine run_nil ?_ | refine runq_nil ?_ | refine rund_op rfl ?_ | refine rund_nil ?_ | refine code_block ?_ | refine code_skip ?_ | refine code_exit ?_ | refine code_ret ?_ | refine code_range ?_ | refine rund_fast (by decide +kernel) ?_ | refine rund_slow (by decide +kernel) ?_ | refine br_tt ?_ | refine br_ff ?_ | refine br_n ?_ | refine br_and ?_ | refine br_or ?_ | refine br_t (by assumption) ?_ | refine br_f (by assumption) ?_ | refine eq_i64 (by omega) ?_ | refine el_tn ?_) | ((with_reducible refine br_dt ?_ ?_); focus omega) | ((with_reducible refine br_df ?_ ?_); focus omega) | ((with_reducible apply br_dq hQz) <;> (try intro hsp hQz)) | ((with_reducible refine ck_x ?_ ?_); focus (first | omega | rfl | assumption | decide | (simp only [List.length_map, List.length_cons, List.length_nil]; omega))) | (with_reducible first | refine eq_tn ?_ | refine eq_tn1 ?_ | refine eq_tn2 ?_ | refine eq_m1 ?_ | refine eq_m2 ?_ | refine eq_zm ?_ | refine eq_z ?_ | refine len_map ?_ | refine len_sl ?_ | refine len_nils ?_ | refine len_own' ?_ | refine len_isl ?_ | refine eq_u8 (by omega) ?_ | refine eq_u16 (by omega) ?_) | refine el_mapE (d := dV) vw_len (by first | assumption | omega) (by with_reducible assumption) ?_ | refine el_mapE (d := dW) rw_len (by first | assumption | omega) (by with_reducible assumption) ?_ | refine el_pred (d := dW) rw_len (by omega) (by with_reducible assumption) ?_ | (with_reducible first | refine eq_rfl ?_ | refine ChkX.mk (by kernel_rfl) ?_ | refine code_q rfl ?_ | refine code_d (by decide +kernel) ?_ | refine end_go rfl ?_) | refine apps_own (f := vwC) (l2 := [(u1, u2, u3, u4)]) vw_len (src_of rfl rfl) (fun hz => by first | (simp [lk, lk_ownE hz]; done) | exact lk_ownE hz) (fun hz => by first | (simp [lk, lk_ownN hz]; done) | exact lk_ownN hz) rfl (by decide) ⟨by omega, by omega⟩ rfl ?_ | (refine appx_own (f := vwC) (l2 := [(u1, u2, u3, u4)]) vw_len (src_of rfl rfl) (fun hz => by first | (simp [lk, lk_ownE hz]; done) | exact lk_ownE hz) rfl (by decide) ⟨by omega, by omega⟩ ?_ ?_ <;> intro hzz) | refine cx_pureS (by assumption) ?_ | refine qcx_pureS (by assumption) ?_ | (refine cx_in hmix b40 rfl ?_; unfold c40) | (refine cx_in hmix b41 rfl ?_; unfold c41) | refine len_map ?_ | refine len_isl ?_ | refine el_of rfl rfl ?_ | refine del_own ?_ | refine del_own' rfl ?_ | refine as_go rfl ?_ | refine rd_go rfl ?_ | refine rg_end rfl ?_ | refine flat_ownX ?_ | refine EqLX.mk ?_ | ((with_reducible apply br_bq hQz) <;> (try intro hsp hQz)) | exact hQz.out)) <;> (try (conv => whnf))))) : p := h ⟨hq⟩
section
variable {L A B : List Vw} {v : Vw} {R : List Rw}
def ofI (a : Int) (L : List Vw) : List Vw := L.filter fun v => decide ((v.1 : Int) = a)
theorem ofI_nat (a : Nat) (L : List Vw) : ofI (a : Nat) L = ofA a L := by unfold ofI ofA; congr 1; funext v; exact decide_eq_decide.2 (by omega)
theorem ofI_nil (a : Int) : ofI a [] = [] := rfl
theorem ofI_snoc (a : Int) (v : Vw) : ofI a (L ++ [v]) = if (v.1 : Int) = a then ofI a L ++ [v] else ofI a L := by
  unfold ofI; rw [List.filter_append]; by_cases h : (v.1 : Int) = a <;> simp [h]
set_option maxHeartbeats 1600000 in
theorem q_of (a : Int) (hl : L.length ≤ 4000) : PureS 19 [.agg [.isl (L.map vwC)], .int .i64 a] (.isl ((ofI a L).map vwC)) := by
  refine PureS.mk (pure_x hmix b19 plainG ⟨plain_vsA, plain_int, trivial⟩ plain_vs rfl ?_)
  unfold c19
  (refine wx_Ba ?_; repeat' (first | with_reducible refine And.intro ?_ ?_ | intro hsp))
  (refine loop_x [1, 2] (fun (i : Nat) => [(5, ownV 1 4 (ofI a (L.take i)).length), (6, .int .i64 (i : Nat))]) (fun (i : Nat) => ⟨[(0, .cells [.isl (L.map vwC)])] ++ ownH 1 vwC (ofI a (L.take i)), 2⟩) (fun (i : Nat) => i ≤ L.length) (fun (i : Nat) => L.length - i) (0) [] rfl (fun _ => by first | exact Nat.zero_le _ | (dsimp only; omega)) ?_ (by ((try (conv => whnf)); (rw [List.take_zero, ofI_nil]); exact wkx_Ba)) ?_)
  · exact Nat.zero_le _
  intro i hi
  have hc : (ofI a (L.take i)).length ≤ i := Nat.le_trans (List.length_filter_le ..) (by rw [List.length_take]; omega)
  by_cases hia : i < L.length
  · have ht := congrArg (ofI a) (take_nth (d := dV) hia)
    rw [ofI_snoc] at ht
    generalize hx : nth dV L i = u at *
    obtain ⟨u1, u2, u3, u4⟩ := u
    dsimp only at ht
    by_cases hf : (u1 : Int) = a
    · rw [if_pos hf] at ht
      (refine wx_Ba ?_; repeat' (first | with_reducible refine And.intro ?_ ?_ | intro hsp))
      all_goals exact next_x (i + 1) [(1, 3)] (by (try dsimp only); omega) (by first | omega | (dsimp only; omega)) rfl (by ((try dsimp only); rw [ht]); exact wkx_Ba)
    · rw [if_neg hf] at ht
      (refine wx_Ba ?_; repeat' (first | with_reducible refine And.intro ?_ ?_ | intro hsp))
      all_goals exact next_x (i + 1) [] (by (try dsimp only); omega) (by first | omega | (dsimp only; omega)) rfl (by ((try dsimp only); rw [ht]); exact wkx_Ba)
  · (refine wx_Ba ?_; repeat' (first | with_reducible refine And.intro ?_ ?_ | intro hsp))
    rw [List.take_of_length_le (by omega)]
    exact end_wk (wk_frzO vw_len vw_plain' fun hz => by simp [lk, lk_ownE hz])
theorem el_pred {f : Rw → List AV} {l : List Rw} {i sz : Nat} {K : List AV → Prop} {d x : Rw} (hf : ∀ x, (f x).length = sz) (hj : i < l.length) (hx : nth d l i = x) (hk : K (f x)) : ElX (l.map f) (((i + 1 : Nat) : Int) - 1).toNat sz K := by
  rw [show (((i + 1 : Nat) : Int) - 1).toNat = i by omega]; exact el_mapE hf hj hx hk
theorem q_same (hl : L.length ≤ 4000) : PureS 16 [.isl (L.map vwC), .isl (L.map vwC)] (.bool true) := by
  refine PureS.mk (pure_x hmix b16 plainG ⟨plain_vs, plain_vs, trivial⟩ plain_bool rfl ?_)
  unfold c16
  (refine wx_Ba ?_; repeat' (first | with_reducible refine And.intro ?_ ?_ | intro hsp))
  (refine loop_x [0, 1] (fun (i : Nat) => [(5, .int .i64 (i : Nat))]) (fun (i : Nat) => ⟨[], 0⟩) (fun (i : Nat) => i ≤ L.length) (fun (i : Nat) => L.length - i) (0) [] rfl (fun _ => by first | exact Nat.zero_le _ | (dsimp only; omega)) ?_ (by ((try (conv => whnf)); exact wkx_Ba1)) ?_)
  · exact Nat.zero_le _
  intro i hi
  by_cases hia : i < L.length
  · generalize hx : nth dV L i = u at *
    (refine wx_Ba ?_; repeat' (first | with_reducible refine And.intro ?_ ?_ | intro hsp))
    all_goals first | exact next_x (i + 1) [] (by (try dsimp only); omega) (by first | omega | (dsimp only; omega)) rfl (by exact wkx_Ba1) | (exfalso; simp at hsp; done)
  · (refine wx_Ba ?_; repeat' (first | with_reducible refine And.intro ?_ ?_ | intro hsp))
    all_goals exact end_bool rfl
set_option maxHeartbeats 1600000 in
theorem p_check {i0 e0 : Int} (h : ChkR R i0 e0) : PureS 13 [.agg [.isl (R.map rwC)]] (.tup [.int .i64 i0, .int .i64 e0]) := by
  refine PureS.mk (pure_x hmix b13 plainG ⟨plain_rsA, trivial⟩ plain_t2 rfl ?_)
  unfold c13
  by_cases hbig : 2000 < R.length
  · obtain ⟨rfl, rfl⟩ := h.uniq (.big hbig)
    (refine wx_Ba ?_; repeat' (first | with_reducible refine And.intro ?_ ?_ | intro hsp))
    all_goals exact end_plain rfl plain_t2
  · (refine wx_Ba ?_; repeat' (first | with_reducible refine And.intro ?_ ?_ | intro hsp))
    (refine loop_x [1, 14, 15] (fun (i : Nat) => [(16, .int .i64 (i : Nat))]) (fun (i : Nat) => ⟨[(0, .cells [.isl (R.map rwC)])], 1⟩) (fun (i : Nat) => i ≤ R.length ∧ ∀ j, j < i → okW (nth dW R j)) (fun (i : Nat) => R.length - i) (0) [] rfl (fun _ => by first | exact Nat.zero_le _ | (dsimp only; omega)) ?_ (by ((try (conv => whnf)); exact wkx_Ba1)) ?_)
    · exact ⟨Nat.zero_le _, fun j hj => by omega⟩
    rintro i ⟨hi, hok⟩
    by_cases hil : i < R.length
    · have hr := k_right (nth dW R i).1 (nth dW R i).2.1 (nth dW R i).2.2.1 (nth dW R i).2.2.2
      by_cases hbad : okW (nth dW R i)
      · rw [decide_eq_true (show inR 64 (nth dW R i).1 ∧ inR 1024 (nth dW R i).2.1 ∧ inR 1024 (nth dW R i).2.2.1 from hbad)] at hr
        have hok2 : ∀ j, j < i + 1 → okW (nth dW R j) := fun j hj => by
          rcases Nat.lt_or_ge j i with h1 | h1
          · exact hok j h1
          · obtain rfl : j = i := by omega
            exact hbad
        clear hok hbad
        generalize hx : nth dW R i = u at *
        (refine wx_Ba ?_; repeat' (first | with_reducible refine And.intro ?_ ?_ | intro hsp))
        all_goals exact next_x (i + 1) [] ⟨by omega, hok2⟩ (by first | omega | (dsimp only; omega)) rfl (by exact wkx_Ba1)
      · rw [decide_eq_false (show ¬ (inR 64 (nth dW R i).1 ∧ inR 1024 (nth dW R i).2.1 ∧ inR 1024 (nth dW R i).2.2.1) from hbad)] at hr
        obtain ⟨rfl, rfl⟩ := h.uniq (.range i (by omega) hil hok hbad)
        clear hok hbad
        generalize hx : nth dW R i = u at *
        (refine wx_Ba ?_; repeat' (first | with_reducible refine And.intro ?_ ?_ | intro hsp))
        all_goals exact end_plain rfl plain_t2
    · obtain rfl : i = R.length := by omega
      (refine wx_Ba ?_; repeat' (first | with_reducible refine And.intro ?_ ?_ | intro hsp))
      (refine loop_x [1, 27, 28] (fun (i : Nat) => [(29, .int .i64 (i : Nat))]) (fun (i : Nat) => ⟨[(0, .cells [.isl (R.map rwC)])], 1⟩) (fun (i : Nat) => i ≤ R.length ∧ ∀ j, j + 1 < i → befW (nth dW R j) (nth dW R (j + 1))) (fun (i : Nat) => R.length - i) (0) [] rfl (fun _ => by first | exact Nat.zero_le _ | (dsimp only; omega)) ?_ (by ((try (conv => whnf)); exact wkx_Ba1)) ?_)
      · exact ⟨Nat.zero_le _, fun j hj => by omega⟩
      rintro i ⟨hi, hbf⟩
      by_cases hil : i < R.length
      · cases i with
        | zero =>
          generalize hx : nth dW R 0 = u at *
          (refine wx_Ba ?_; repeat' (first | with_reducible refine And.intro ?_ ?_ | intro hsp))
          all_goals exact next_x 1 [] ⟨by omega, fun j hj => by omega⟩ (by first | omega | (dsimp only; omega)) rfl (by exact wkx_Ba1)
        | succ i =>
          by_cases hb : befW (nth dW R i) (nth dW R (i + 1))
          · have hbf2 : ∀ j, j + 1 < i + 1 + 1 → befW (nth dW R j) (nth dW R (j + 1)) := fun j hj => by
              rcases Nat.lt_or_ge (j + 1) (i + 1) with h1 | h1
              · exact hbf j h1
              · obtain rfl : j = i := by omega
                exact hb
            clear hbf hok
            unfold befW at hb
            generalize hx : nth dW R i = u at *
            generalize hy : nth dW R (i + 1) = w at *
            (refine wx_Ba ?_; repeat' (first | with_reducible refine And.intro ?_ ?_ | intro hsp))
            all_goals exact next_x (i + 1 + 1) [] ⟨by omega, hbf2⟩ (by first | omega | (dsimp only; omega)) rfl (by exact wkx_Ba1)
          · obtain ⟨rfl, rfl⟩ := h.uniq (.pair (i + 1) (by omega) (by omega) hil hok (fun j hj => hbf j hj) hb)
            clear hbf hok h
            rw [show i + 1 - 1 = i by omega]
            by_cases h6 : befW (nth dW R (i + 1)) (nth dW R i)
            · rw [if_pos h6]
              unfold befW at hb h6
              generalize hx : nth dW R i = u at *
              generalize hy : nth dW R (i + 1) = w at *
              (refine wx_Ba ?_; repeat' (first | with_reducible refine And.intro ?_ ?_ | intro hsp))
              all_goals exact end_plain rfl plain_t2
            · rw [if_neg h6]
              unfold befW at hb h6
              generalize hx : nth dW R i = u at *
              generalize hy : nth dW R (i + 1) = w at *
              (refine wx_Ba ?_; repeat' (first | with_reducible refine And.intro ?_ ?_ | intro hsp))
              all_goals exact end_plain rfl plain_t2
      · obtain rfl : i = R.length := by omega
        obtain ⟨rfl, rfl⟩ := h.uniq (.ok (by omega) hok hbf)
        (refine wx_Ba ?_; repeat' (first | with_reducible refine And.intro ?_ ?_ | intro hsp))
        all_goals exact end_plain rfl plain_t2
theorem plain_rwE {v : Rw} : Plain (.agg [.int .i64 v.1, .int .i64 v.2.1, .int .i64 v.2.2.1, .bool v.2.2.2]) := plain_vwE
theorem k_before (u w : Rw) (b : Bool) (h : b = decide (befW u w)) : PureS 42 [.agg [.int .i64 u.1, .int .i64 u.2.1, .int .i64 u.2.2.1, .bool u.2.2.2], .agg [.int .i64 w.1, .int .i64 w.2.1, .int .i64 w.2.2.1, .bool w.2.2.2]] (.bool b) := by
  refine PureS.mk (pure_x hmix b42 plainG ⟨plain_rwE, plain_rwE, trivial⟩ plain_bool rfl ?_)
  unfold c42
  subst h
  have ht : befW u w ↔ u.1 < w.1 ∨ (u.1 = w.1 ∧ u.2.1 < w.2.1) := Iff.rfl
  (refine wx_Ba ?_; repeat' (first | with_reducible refine And.intro ?_ ?_ | intro hsp))
  all_goals exact end_bool (by first | (symm; rw [decide_eq_true_eq, ht]; omega) | (symm; rw [decide_eq_false_iff_not, ht]; omega) | (by_cases h4 : u.2.1 < w.2.1 <;> simp [ht, h4] <;> omega))
set_option maxHeartbeats 1600000 in
theorem q_check {i0 e0 : Int} (h : ChkR R i0 e0) : PureS 14 [.agg [.isl (R.map rwC)]] (.tup [.int .i64 i0, .int .i64 e0]) := by
  refine PureS.mk (pure_x hmix b14 plainG ⟨plain_rsA, trivial⟩ plain_t2 rfl ?_)
  unfold c14
  by_cases hbig : 2000 < R.length
  · obtain ⟨rfl, rfl⟩ := h.uniq (.big hbig)
    (refine wx_Ba ?_; repeat' (first | with_reducible refine And.intro ?_ ?_ | intro hsp))
    all_goals exact end_plain rfl plain_t2
  · (refine wx_Ba ?_; repeat' (first | with_reducible refine And.intro ?_ ?_ | intro hsp))
    (refine loop_x [1] (fun (i : Nat) => [(4, .int .i64 (i : Nat))]) (fun (i : Nat) => ⟨[(0, .cells [.isl (R.map rwC)])], 1⟩) (fun (i : Nat) => i ≤ R.length ∧ ∀ j, j < i → okW (nth dW R j)) (fun (i : Nat) => R.length - i) (0) [] rfl (fun _ => by first | exact Nat.zero_le _ | (dsimp only; omega)) ?_ (by ((try (conv => whnf)); exact wkx_Ba1)) ?_)
    · exact ⟨Nat.zero_le _, fun j hj => by omega⟩
    rintro i ⟨hi, hok⟩
    by_cases hil : i < R.length
    · by_cases hbad : okW (nth dW R i)
      · have hok2 : ∀ j, j < i + 1 → okW (nth dW R j) := fun j hj => by
          rcases Nat.lt_or_ge j i with h1 | h1
          · exact hok j h1
          · obtain rfl : j = i := by omega
            exact hbad
        clear hok
        unfold okW at hbad
        generalize hx : nth dW R i = u at *
        (refine wx_Ba ?_; repeat' (first | with_reducible refine And.intro ?_ ?_ | intro hsp))
        all_goals exact next_x (i + 1) [] ⟨by omega, hok2⟩ (by first | omega | (dsimp only; omega)) rfl (by exact wkx_Ba1)
      · obtain ⟨rfl, rfl⟩ := h.uniq (.range i (by omega) hil hok hbad)
        clear hok h
        unfold okW at hbad
        generalize hx : nth dW R i = u at *
        (refine wx_Ba ?_; repeat' (first | with_reducible refine And.intro ?_ ?_ | intro hsp))
        all_goals exact end_plain rfl plain_t2
    · obtain rfl : i = R.length := by omega
      (refine wx_Ba ?_; repeat' (first | with_reducible refine And.intro ?_ ?_ | intro hsp))
      (refine loop_x [1] (fun (i : Nat) => [(6, .int .i64 ((i + 1 : Nat) : Int))]) (fun (i : Nat) => ⟨[(0, .cells [.isl (R.map rwC)])], 1⟩) (fun (i : Nat) => i ≤ R.length ∧ ∀ j, j + 1 < i + 1 → j + 1 < R.length → befW (nth dW R j) (nth dW R (j + 1))) (fun (i : Nat) => R.length - i) (0) [] rfl (fun _ => by first | exact Nat.zero_le _ | (dsimp only; omega)) ?_ (by ((try (conv => whnf)); exact wkx_Ba1)) ?_)
      · exact ⟨Nat.zero_le _, fun j hj => by omega⟩
      rintro i ⟨hi, hbf⟩
      by_cases hil : i + 1 < R.length
      · by_cases hb : befW (nth dW R i) (nth dW R (i + 1))
        · have hbf2 : ∀ j, j + 1 < i + 1 + 1 → j + 1 < R.length → befW (nth dW R j) (nth dW R (j + 1)) := fun j hj hj2 => by
            rcases Nat.lt_or_ge (j + 1) (i + 1) with h1 | h1
            · exact hbf j h1 hj2
            · obtain rfl : j = i := by omega
              exact hb
          clear hbf hok
          have k1 := k_before (nth dW R i) (nth dW R (i + 1)) true (decide_eq_true hb).symm
          have k2 := k_before (nth dW R (i + 1)) (nth dW R i) false (decide_eq_false (by unfold befW at hb ⊢; omega)).symm
          unfold befW at hb
          generalize hx : nth dW R i = u at *
          generalize hy : nth dW R (i + 1) = w at *
          (refine wx_Ba ?_; repeat' (first | with_reducible refine And.intro ?_ ?_ | intro hsp))
          all_goals exact next_x (i + 1) [] ⟨by omega, hbf2⟩ (by first | omega | (dsimp only; omega)) rfl (by exact wkx_Ba1)
        · obtain ⟨rfl, rfl⟩ := h.uniq (.pair (i + 1) (by omega) (by omega) hil hok (fun j hj => hbf j hj (by omega)) hb)
          clear hbf hok h
          rw [show i + 1 - 1 = i by omega]
          by_cases h6 : befW (nth dW R (i + 1)) (nth dW R i)
          · rw [if_pos h6]
            have k2 := k_before (nth dW R (i + 1)) (nth dW R i) true (decide_eq_true h6).symm
            unfold befW at hb h6
            generalize hx : nth dW R i = u at *
            generalize hy : nth dW R (i + 1) = w at *
            (refine wx_Ba ?_; repeat' (first | with_reducible refine And.intro ?_ ?_ | intro hsp))
            all_goals exact end_plain rfl plain_t2
          · rw [if_neg h6]
            have k1 := k_before (nth dW R i) (nth dW R (i + 1)) false (decide_eq_false hb).symm
            have k2 := k_before (nth dW R (i + 1)) (nth dW R i) false (decide_eq_false h6).symm
            unfold befW at hb h6
            generalize hx : nth dW R i = u at *
            generalize hy : nth dW R (i + 1) = w at *
            (refine wx_Ba ?_; repeat' (first | with_reducible refine And.intro ?_ ?_ | intro hsp))
            all_goals exact end_plain rfl plain_t2
      · obtain ⟨rfl, rfl⟩ := h.uniq (.ok (by omega) hok fun j hj => hbf j (by omega) hj)
        (refine wx_Ba ?_; repeat' (first | with_reducible refine And.intro ?_ ?_ | intro hsp))
        all_goals exact end_plain rfl plain_t2
end
end Go.Proofs.Ytccbhbdbmmkcdaa.Sh
