/-
  The law of forks.
-/
import Derived.Test.YtccbhbdbmmkcdaaAmWt
import Derived.Test.YtccbhbdbmmkcdaaEf
import Derived.Test.YtccbhbdbmmkcdaaYl
import Derived.Test.YtccbhbdbmmkcdaaAmWn
set_option linter.unusedSimpArgs false
set_option linter.unusedVariables false
namespace Go.Pol
open Go.Am
theorem frk_ofA {L M : List Vw} {a b : Nat} (hL : srt L) (hM : srt M) (hab : a ≠ b) (hb : ofA b L = []) (h : Frk L (ofA a L) b (ofA a L).length M) : ofA a M = (ofA a L).map roV ∧ ofA b M = (ofA a L).map (cpV b) := by
  have hO : srt (ofA a L) := hL.sublist List.filter_sublist
  have hOa : ∀ u ∈ ofA a L, u.1 = a := fun u hu => (mem_ofA.1 hu).2
  have hm : ∀ v, v ∈ M ↔ (v ∈ L ∧ v ∉ ofA a L) ∨ ∃ u, u ∈ ofA a L ∧ (v = roV u ∨ v = cpV b u) := fun v => by rw [h.mem, List.take_length]
  have hnb : ∀ v ∈ L, v.1 ≠ b := fun v hv e => by
    have : v ∈ ofA b L := mem_ofA.2 ⟨hv, e⟩
    rw [hb] at this; cases this
  constructor
  · refine srt_ext (hM.sublist List.filter_sublist) (List.Pairwise.map _ (fun u v hb => by unfold bef roV at *; exact hb) hO) fun v => ?_
    rw [mem_ofA, hm, List.mem_map]
    constructor
    · rintro ⟨⟨h1, h2⟩ | ⟨u, h1, h2 | h2⟩, h3⟩
      · exact absurd (mem_ofA.2 ⟨h1, h3⟩) h2
      · exact ⟨u, h1, h2.symm⟩
      · rw [h2] at h3; exact absurd h3.symm hab
    · rintro ⟨u, h1, rfl⟩
      exact ⟨.inr ⟨u, h1, .inl rfl⟩, hOa u h1⟩
  · refine srt_ext (hM.sublist List.filter_sublist) (List.Pairwise.map _ (R := fun u v => bef u v ∧ u.1 = v.1) (fun u v hb => by obtain ⟨h1, h2⟩ := hb; unfold bef cpV at *; dsimp only; omega) (List.Pairwise.imp_of_mem (R := bef) (fun {u v} hu hv hb => ⟨hb, by rw [hOa u hu, hOa v hv]⟩) hO)) fun v => ?_
    rw [mem_ofA, hm, List.mem_map]
    constructor
    · rintro ⟨⟨h1, h2⟩ | ⟨u, h1, h2 | h2⟩, h3⟩
      · exact absurd h3 (hnb v h1)
      · rw [h2] at h3; exact absurd ((hOa u h1).symm.trans h3) hab
      · exact ⟨u, h1, h2.symm⟩
    · rintro ⟨u, h1, rfl⟩
      exact ⟨.inr ⟨u, h1, .inr rfl⟩, rfl⟩
/-- A view as it is behind a fork of its arena. -/
def wnV (a : Nat) (v : Vw) : Vw := (v.1, v.2.1, v.2.2.1, v.2.2.2 && !decide (v.1 = a))
theorem frk_noA {L M : List Vw} {a b : Nat} (hL : srt L) (hM : srt M) (hab : a ≠ b) (hb : ofA b L = []) (h : Frk L (ofA a L) b (ofA a L).length M) : noA b M = L.map (wnV a) := by
  have hm : ∀ v, v ∈ M ↔ (v ∈ L ∧ v ∉ ofA a L) ∨ ∃ u, u ∈ ofA a L ∧ (v = roV u ∨ v = cpV b u) := fun v => by rw [h.mem, List.take_length]
  have hnb : ∀ v ∈ L, v.1 ≠ b := fun v hv e => by
    have : v ∈ ofA b L := mem_ofA.2 ⟨hv, e⟩
    rw [hb] at this; cases this
  have hw : ∀ v : Vw, (v.1 ≠ a → wnV a v = v) ∧ (v.1 = a → wnV a v = roV v) := fun v => by
    obtain ⟨v1, v2, v3, v4⟩ := v
    unfold wnV roV
    exact ⟨fun h => by have : decide (v1 = a) = false := decide_eq_false h; dsimp only; rw [this]; simp, fun h => by have : decide (v1 = a) = true := decide_eq_true h; dsimp only; rw [this]; simp⟩
  refine srt_ext (hM.sublist List.filter_sublist) (List.Pairwise.map _ (fun u v hb => by unfold bef wnV at *; exact hb) hL) fun v => ?_
  unfold noA
  rw [List.mem_filter, decide_eq_true_eq, hm, List.mem_map]
  constructor
  · rintro ⟨⟨h1, h2⟩ | ⟨u, h1, h2 | h2⟩, h3⟩
    · exact ⟨v, h1, (hw v).1 fun e => h2 (mem_ofA.2 ⟨h1, e⟩)⟩
    · exact ⟨u, (mem_ofA.1 h1).1, by rw [(hw u).2 (mem_ofA.1 h1).2, h2]⟩
    · rw [h2] at h3; exact absurd rfl h3
  · rintro ⟨u, h1, rfl⟩
    by_cases hu : u.1 = a
    · rw [(hw u).2 hu]
      exact ⟨.inr ⟨u, mem_ofA.2 ⟨h1, hu⟩, .inl rfl⟩, by show u.1 ≠ b; rw [hu]; exact hab⟩
    · rw [(hw u).1 hu]
      exact ⟨.inl ⟨h1, fun h2 => hu (mem_ofA.1 h2).2⟩, hnb u h1⟩
theorem frk_gone {L M : List Vw} {a b : Nat} (hab : a ≠ b) (hofa : ofA a M = (ofA a L).map roV) (hofb : ofA b M = (ofA a L).map (cpV b)) : goneL M b = [] := by
  unfold goneL goneU
  rw [List.filter_eq_nil_iff]
  intro f _
  unfold goneB
  rw [less_all, List.take_length]
  simp only [Bool.and_eq_true, decide_eq_true_eq, not_and]
  intro h1 h2
  unfold frs at h1
  rw [hofb] at h1
  obtain ⟨v, h3, h4⟩ := List.mem_map.1 h1
  obtain ⟨u, h5, rfl⟩ := List.mem_map.1 h3
  have h6 : roV u ∈ ofA a M := by rw [hofa]; exact List.mem_map.2 ⟨u, h5, rfl⟩
  have h7 := mem_ofA.1 h6
  have h8 : roV u ∈ noA b M := by unfold noA; rw [List.mem_filter, decide_eq_true_eq]; exact ⟨h7.1, by rw [h7.2]; exact hab⟩
  unfold cntF at h2
  rw [List.length_eq_zero_iff, List.filter_eq_nil_iff] at h2
  exact h2 _ h8 (decide_eq_true h4)
end Go.Pol
namespace Go.Proofs.Ytccbhbdbmmkcdaa.Sh
open Go Go.Am Go.Pol
theorem wkx_Eg {p : Prop} (h : p := by (refine weak_s (by exact oneOf_of rfl) (by exact subH_of rfl) (by intro hs; (repeat' ((try (conv => whnf)); first | with_reducible exact True.intro | with_reducible refine And.intro ?_ ?_ | (with_reducible refine WkX.mk ?_; first | exact wk_undef | exact wk_int (by first | rfl | omega | (dsimp only; omega)) | exact wk_bool rfl | exact wk_ptr rfl (by first | decide | simp | omega) | exact wk_map rfl (by first | decide | simp | omega) | exact wk_sl rfl (by first | decide | simp | omega) (by first | rfl | omega | simp) (by first | omega | simp) (by first | omega | simp) | exact wk_own rfl (by first | decide | simp | omega) | exact wk_nil0 (by first | rfl | simp) | exact wk_slown rfl (by first | decide | omega | (simp; done)) (by first | omega | (simp; done)) (by first | rfl | omega | (simp; done) | (simp; omega)) | exact wk_plain hs (by (first | assumption | exact plain_int | exact plain_bool | exact plain_undef | exact plain_nils | exact plain_nilp | exact plain_nilf | exact plain_str | with_reducible apply plain_int | with_reducible apply plain_bool | with_reducible apply plain_vwC | with_reducible apply plain_vwE | with_reducible apply plain_vs | with_reducible apply plain_vsA | with_reducible apply plain_is | with_reducible apply plain_rsA | with_reducible apply plain_ns | with_reducible apply plain_t2 | with_reducible apply plain_tn | with_reducible apply plain_isl0)) | (with_reducible refine wk_fn ?_ ?_ <;> repeat' (first | with_reducible exact wkl_nil | with_reducible refine wkl_cons ?_ ?_ | exact wk_ptr rfl (by first | decide | simp | omega))) | (with_reducible refine wk_agg ?_; repeat' (first | with_reducible exact wkl_nil | with_reducible refine wkl_cons ?_ ?_ | exact wk_int (by first | rfl | omega | (dsimp only; omega)) | exact wk_bool rfl)) | exact wk_yld rfl (by first | decide | simp | omega) | (with_reducible refine wk_tup ?_; repeat' (first | with_reducible exact wkl_nil | with_reducible refine wkl_cons ?_ ?_ | exact wk_int (by first | rfl | omega | (dsimp only; omega)) | exact wk_bool rfl | exact wk_ptr rfl (by first | decide | simp | omega))))))) (by intro hs; (try dsimp only); (repeat' (first | with_reducible exact wko_nil | refine wko_tab hs (by first | decide | omega | simp) rfl rfl (by first | decide | omega | simp) rfl (by first | decide | omega | simp) ?_ | refine wko_maps hs (by first | decide | omega | simp) rfl rfl key_plain ?_ | refine wko_plain hs (by first | decide | omega | simp) rfl (by first | rfl) (by (first | with_reducible assumption | with_reducible apply cells_plain | with_reducible apply ends_plain | with_reducible apply cnt_plain | with_reducible apply memI_plain _ _ | with_reducible apply vw_plain | with_reducible apply plain_flat vw_plain' | with_reducible apply nat_plain | with_reducible apply a_plain | with_reducible apply plain_flat nat1_plain | with_reducible apply plain_flat int1_plain | with_reducible apply plain_map (fun _ => plain_int) | with_reducible apply plain_map (fun _ => plain_bool) | ((repeat' (first | exact plain_all0 | refine plain_all2 ?_ ?_ | exact plain_int | first | assumption | exact plain_int | exact plain_bool | exact plain_undef | exact plain_nils | exact plain_nilp | exact plain_nilf | exact plain_str | with_reducible apply plain_int | with_reducible apply plain_bool | with_reducible apply plain_vwC | with_reducible apply plain_vwE | with_reducible apply plain_vs | with_reducible apply plain_vsA | with_reducible apply plain_is | with_reducible apply plain_rsA | with_reducible apply plain_ns | with_reducible apply plain_t2 | with_reducible apply plain_tn | with_reducible apply plain_isl0)); done) | ((refine plain_app ?_ ?_) <;> (first | with_reducible assumption | with_reducible apply cells_plain | with_reducible apply ends_plain | with_reducible apply cnt_plain | with_reducible apply memI_plain _ _ | with_reducible apply vw_plain | with_reducible apply plain_flat vw_plain' | with_reducible apply nat_plain | with_reducible apply a_plain | with_reducible apply plain_flat nat1_plain | with_reducible apply plain_flat int1_plain | with_reducible apply plain_map (fun _ => plain_int) | with_reducible apply plain_map (fun _ => plain_bool) | ((repeat' (first | exact plain_all0 | refine plain_all2 ?_ ?_ | exact plain_int | first | assumption | exact plain_int | exact plain_bool | exact plain_undef | exact plain_nils | exact plain_nilp | exact plain_nilf | exact plain_str | with_reducible apply plain_int | with_reducible apply plain_bool | with_reducible apply plain_vwC | with_reducible apply plain_vwE | with_reducible apply plain_vs | with_reducible apply plain_vsA | with_reducible apply plain_is | with_reducible apply plain_rsA | with_reducible apply plain_ns | with_reducible apply plain_t2 | with_reducible apply plain_tn | with_reducible apply plain_isl0)); done))))) ?_ | refine wko_cells (by first | decide | omega | simp) rfl (by repeat' (first | with_reducible exact wkl_nil | with_reducible refine wkl_cons ?_ ?_ | (first | exact wk_undef | exact wk_int (by first | rfl | omega | (dsimp only; omega)) | exact wk_bool rfl | exact wk_ptr rfl (by first | decide | simp | omega) | exact wk_map rfl (by first | decide | simp | omega) | exact wk_sl rfl (by first | decide | simp | omega) (by first | rfl | omega | simp) (by first | omega | simp) (by first | omega | simp) | exact wk_own rfl (by first | decide | simp | omega) | exact wk_nil0 (by first | rfl | simp) | exact wk_slown rfl (by first | decide | omega | (simp; done)) (by first | omega | (simp; done)) (by first | rfl | omega | (simp; done) | (simp; omega)) | exact wk_plain hs (by (first | assumption | exact plain_int | exact plain_bool | exact plain_undef | exact plain_nils | exact plain_nilp | exact plain_nilf | exact plain_str | with_reducible apply plain_int | with_reducible apply plain_bool | with_reducible apply plain_vwC | with_reducible apply plain_vwE | with_reducible apply plain_vs | with_reducible apply plain_vsA | with_reducible apply plain_is | with_reducible apply plain_rsA | with_reducible apply plain_ns | with_reducible apply plain_t2 | with_reducible apply plain_tn | with_reducible apply plain_isl0)) | (with_reducible refine wk_fn ?_ ?_ <;> repeat' (first | with_reducible exact wkl_nil | with_reducible refine wkl_cons ?_ ?_ | exact wk_ptr rfl (by first | decide | simp | omega))) | (with_reducible refine wk_agg ?_; repeat' (first | with_reducible exact wkl_nil | with_reducible refine wkl_cons ?_ ?_ | exact wk_int (by first | rfl | omega | (dsimp only; omega)) | exact wk_bool rfl)) | exact wk_yld rfl (by first | decide | simp | omega) | (with_reducible refine wk_tup ?_; repeat' (first | with_reducible exact wkl_nil | with_reducible refine wkl_cons ?_ ?_ | exact wk_int (by first | rfl | omega | (dsimp only; omega)) | exact wk_bool rfl | exact wk_ptr rfl (by first | decide | simp | omega)))))) ?_ | refine wko_loop (by first | decide | omega | simp) rfl (by ((try subst hF); (try subst hF2); exact wkl_sd (wkf_sget (by (repeat' ((try (conv => whnf)); first | with_reducible exact True.intro | with_reducible refine And.intro ?_ ?_ | (with_reducible refine WkX.mk ?_; first | exact wk_undef | exact wk_int (by first | rfl | omega | (dsimp only; omega)) | exact wk_bool rfl | exact wk_ptr rfl (by first | decide | simp | omega) | exact wk_map rfl (by first | decide | simp | omega) | exact wk_sl rfl (by first | decide | simp | omega) (by first | rfl | omega | simp) (by first | omega | simp) (by first | omega | simp) | exact wk_own rfl (by first | decide | simp | omega) | exact wk_nil0 (by first | rfl | simp) | exact wk_slown rfl (by first | decide | omega | (simp; done)) (by first | omega | (simp; done)) (by first | rfl | omega | (simp; done) | (simp; omega)) | exact wk_plain hs (by (first | assumption | exact plain_int | exact plain_bool | exact plain_undef | exact plain_nils | exact plain_nilp | exact plain_nilf | exact plain_str | with_reducible apply plain_int | with_reducible apply plain_bool | with_reducible apply plain_vwC | with_reducible apply plain_vwE | with_reducible apply plain_vs | with_reducible apply plain_vsA | with_reducible apply plain_is | with_reducible apply plain_rsA | with_reducible apply plain_ns | with_reducible apply plain_t2 | with_reducible apply plain_tn | with_reducible apply plain_isl0)) | (with_reducible refine wk_fn ?_ ?_ <;> repeat' (first | with_reducible exact wkl_nil | with_reducible refine wkl_cons ?_ ?_ | exact wk_ptr rfl (by first | decide | simp | omega))) | (with_reducible refine wk_agg ?_; repeat' (first | with_reducible exact wkl_nil | with_reducible refine wkl_cons ?_ ?_ | exact wk_int (by first | rfl | omega | (dsimp only; omega)) | exact wk_bool rfl)) | exact wk_yld rfl (by first | decide | simp | omega) | (with_reducible refine wk_tup ?_; repeat' (first | with_reducible exact wkl_nil | with_reducible refine wkl_cons ?_ ?_ | exact wk_int (by first | rfl | omega | (dsimp only; omega)) | exact wk_bool rfl | exact wk_ptr rfl (by first | decide | simp | omega)))))))))) ?_ | exact wko_nil))))) : p := h
theorem wkx_Eg1 {p : Prop} (h : p := by (refine weak_o (by rfl) (by rfl) (fun hz => by first | exact absurd rfl hz | (simp [lk, lk_ownE hz]; done) | exact lk_ownE hz | rfl) (by rfl) (vw_plain') (by intro hs; (repeat' ((try (conv => whnf)); first | with_reducible exact True.intro | with_reducible refine And.intro ?_ ?_ | (with_reducible refine WkX.mk ?_; first | exact wk_undef | exact wk_int (by first | rfl | omega | (dsimp only; omega)) | exact wk_bool rfl | exact wk_ptr rfl (by first | decide | simp | omega) | exact wk_map rfl (by first | decide | simp | omega) | exact wk_sl rfl (by first | decide | simp | omega) (by first | rfl | omega | simp) (by first | omega | simp) (by first | omega | simp) | exact wk_own rfl (by first | decide | simp | omega) | exact wk_nil0 (by first | rfl | simp) | exact wk_slown rfl (by first | decide | omega | (simp; done)) (by first | omega | (simp; done)) (by first | rfl | omega | (simp; done) | (simp; omega)) | exact wk_plain hs (by (first | assumption | exact plain_int | exact plain_bool | exact plain_undef | exact plain_nils | exact plain_nilp | exact plain_nilf | exact plain_str | with_reducible apply plain_int | with_reducible apply plain_bool | with_reducible apply plain_vwC | with_reducible apply plain_vwE | with_reducible apply plain_vs | with_reducible apply plain_vsA | with_reducible apply plain_is | with_reducible apply plain_rsA | with_reducible apply plain_ns | with_reducible apply plain_t2 | with_reducible apply plain_tn | with_reducible apply plain_isl0)) | (with_reducible refine wk_fn ?_ ?_ <;> repeat' (first | with_reducible exact wkl_nil | with_reducible refine wkl_cons ?_ ?_ | exact wk_ptr rfl (by first | decide | simp | omega))) | (with_reducible refine wk_agg ?_; repeat' (first | with_reducible exact wkl_nil | with_reducible refine wkl_cons ?_ ?_ | exact wk_int (by first | rfl | omega | (dsimp only; omega)) | exact wk_bool rfl)) | exact wk_yld rfl (by first | decide | simp | omega) | (with_reducible refine wk_tup ?_; repeat' (first | with_reducible exact wkl_nil | with_reducible refine wkl_cons ?_ ?_ | exact wk_int (by first | rfl | omega | (dsimp only; omega)) | exact wk_bool rfl | exact wk_ptr rfl (by first | decide | simp | omega))))))) (by intro hs; (repeat' (first | with_reducible exact wko_nil | refine wko_tab hs (by first | decide | omega | simp) rfl rfl (by first | decide | omega | simp) rfl (by first | decide | omega | simp) ?_ | refine wko_maps hs (by first | decide | omega | simp) rfl rfl key_plain ?_ | refine wko_plain hs (by first | decide | omega | simp) rfl (by first | rfl) (by (first | with_reducible assumption | with_reducible apply cells_plain | with_reducible apply ends_plain | with_reducible apply cnt_plain | with_reducible apply memI_plain _ _ | with_reducible apply vw_plain | with_reducible apply plain_flat vw_plain' | with_reducible apply nat_plain | with_reducible apply a_plain | with_reducible apply plain_flat nat1_plain | with_reducible apply plain_flat int1_plain | with_reducible apply plain_map (fun _ => plain_int) | with_reducible apply plain_map (fun _ => plain_bool) | ((repeat' (first | exact plain_all0 | refine plain_all2 ?_ ?_ | exact plain_int | first | assumption | exact plain_int | exact plain_bool | exact plain_undef | exact plain_nils | exact plain_nilp | exact plain_nilf | exact plain_str | with_reducible apply plain_int | with_reducible apply plain_bool | with_reducible apply plain_vwC | with_reducible apply plain_vwE | with_reducible apply plain_vs | with_reducible apply plain_vsA | with_reducible apply plain_is | with_reducible apply plain_rsA | with_reducible apply plain_ns | with_reducible apply plain_t2 | with_reducible apply plain_tn | with_reducible apply plain_isl0)); done) | ((refine plain_app ?_ ?_) <;> (first | with_reducible assumption | with_reducible apply cells_plain | with_reducible apply ends_plain | with_reducible apply cnt_plain | with_reducible apply memI_plain _ _ | with_reducible apply vw_plain | with_reducible apply plain_flat vw_plain' | with_reducible apply nat_plain | with_reducible apply a_plain | with_reducible apply plain_flat nat1_plain | with_reducible apply plain_flat int1_plain | with_reducible apply plain_map (fun _ => plain_int) | with_reducible apply plain_map (fun _ => plain_bool) | ((repeat' (first | exact plain_all0 | refine plain_all2 ?_ ?_ | exact plain_int | first | assumption | exact plain_int | exact plain_bool | exact plain_undef | exact plain_nils | exact plain_nilp | exact plain_nilf | exact plain_str | with_reducible apply plain_int | with_reducible apply plain_bool | with_reducible apply plain_vwC | with_reducible apply plain_vwE | with_reducible apply plain_vs | with_reducible apply plain_vsA | with_reducible apply plain_is | with_reducible apply plain_rsA | with_reducible apply plain_ns | with_reducible apply plain_t2 | with_reducible apply plain_tn | with_reducible apply plain_isl0)); done))))) ?_ | refine wko_cells (by first | decide | omega | simp) rfl (by repeat' (first | with_reducible exact wkl_nil | with_reducible refine wkl_cons ?_ ?_ | (first | exact wk_undef | exact wk_int (by first | rfl | omega | (dsimp only; omega)) | exact wk_bool rfl | exact wk_ptr rfl (by first | decide | simp | omega) | exact wk_map rfl (by first | decide | simp | omega) | exact wk_sl rfl (by first | decide | simp | omega) (by first | rfl | omega | simp) (by first | omega | simp) (by first | omega | simp) | exact wk_own rfl (by first | decide | simp | omega) | exact wk_nil0 (by first | rfl | simp) | exact wk_slown rfl (by first | decide | omega | (simp; done)) (by first | omega | (simp; done)) (by first | rfl | omega | (simp; done) | (simp; omega)) | exact wk_plain hs (by (first | assumption | exact plain_int | exact plain_bool | exact plain_undef | exact plain_nils | exact plain_nilp | exact plain_nilf | exact plain_str | with_reducible apply plain_int | with_reducible apply plain_bool | with_reducible apply plain_vwC | with_reducible apply plain_vwE | with_reducible apply plain_vs | with_reducible apply plain_vsA | with_reducible apply plain_is | with_reducible apply plain_rsA | with_reducible apply plain_ns | with_reducible apply plain_t2 | with_reducible apply plain_tn | with_reducible apply plain_isl0)) | (with_reducible refine wk_fn ?_ ?_ <;> repeat' (first | with_reducible exact wkl_nil | with_reducible refine wkl_cons ?_ ?_ | exact wk_ptr rfl (by first | decide | simp | omega))) | (with_reducible refine wk_agg ?_; repeat' (first | with_reducible exact wkl_nil | with_reducible refine wkl_cons ?_ ?_ | exact wk_int (by first | rfl | omega | (dsimp only; omega)) | exact wk_bool rfl)) | exact wk_yld rfl (by first | decide | simp | omega) | (with_reducible refine wk_tup ?_; repeat' (first | with_reducible exact wkl_nil | with_reducible refine wkl_cons ?_ ?_ | exact wk_int (by first | rfl | omega | (dsimp only; omega)) | exact wk_bool rfl | exact wk_ptr rfl (by first | decide | simp | omega)))))) ?_ | refine wko_loop (by first | decide | omega | simp) rfl (by ((try subst hF); (try subst hF2); exact wkl_sd (wkf_sget (by (repeat' ((try (conv => whnf)); first | with_reducible exact True.intro | with_reducible refine And.intro ?_ ?_ | (with_reducible refine WkX.mk ?_; first | exact wk_undef | exact wk_int (by first | rfl | omega | (dsimp only; omega)) | exact wk_bool rfl | exact wk_ptr rfl (by first | decide | simp | omega) | exact wk_map rfl (by first | decide | simp | omega) | exact wk_sl rfl (by first | decide | simp | omega) (by first | rfl | omega | simp) (by first | omega | simp) (by first | omega | simp) | exact wk_own rfl (by first | decide | simp | omega) | exact wk_nil0 (by first | rfl | simp) | exact wk_slown rfl (by first | decide | omega | (simp; done)) (by first | omega | (simp; done)) (by first | rfl | omega | (simp; done) | (simp; omega)) | exact wk_plain hs (by (first | assumption | exact plain_int | exact plain_bool | exact plain_undef | exact plain_nils | exact plain_nilp | exact plain_nilf | exact plain_str | with_reducible apply plain_int | with_reducible apply plain_bool | with_reducible apply plain_vwC | with_reducible apply plain_vwE | with_reducible apply plain_vs | with_reducible apply plain_vsA | with_reducible apply plain_is | with_reducible apply plain_rsA | with_reducible apply plain_ns | with_reducible apply plain_t2 | with_reducible apply plain_tn | with_reducible apply plain_isl0)) | (with_reducible refine wk_fn ?_ ?_ <;> repeat' (first | with_reducible exact wkl_nil | with_reducible refine wkl_cons ?_ ?_ | exact wk_ptr rfl (by first | decide | simp | omega))) | (with_reducible refine wk_agg ?_; repeat' (first | with_reducible exact wkl_nil | with_reducible refine wkl_cons ?_ ?_ | exact wk_int (by first | rfl | omega | (dsimp only; omega)) | exact wk_bool rfl)) | exact wk_yld rfl (by first | decide | simp | omega) | (with_reducible refine wk_tup ?_; repeat' (first | with_reducible exact wkl_nil | with_reducible refine wkl_cons ?_ ?_ | exact wk_int (by first | rfl | omega | (dsimp only; omega)) | exact wk_bool rfl | exact wk_ptr rfl (by first | decide | simp | omega)))))))))) ?_ | exact wko_nil))))) : p := h
theorem wx_Eg {p q : Prop} (hq : q) (h : HidP q → p := by (intro hQz; ((repeat' ((try (conv => whnf)); first | (with_reducible first | refine run_cons ?_ | refine runq_cons ?_ | refine code_seq ?_ | refine code_reg ?_ | refine code_cond ?_ | refine run_nil ?_ | refine runq_nil ?_ | refine rund_op rfl ?_ | refine rund_nil ?_ | refine code_block ?_ | refine code_skip ?_ | refine code_exit ?_ | refine code_ret ?_ | refine code_range ?_ | refine rund_fast (by decide +kernel) ?_ | refine rund_slow (by decide +kernel) ?_ | refine br_tt ?_ | refine br_ff ?_ | refine br_n ?_ | refine br_and ?_ | refine br_or ?_ | refine br_t (by assumption) ?_ | refine br_f (by assumption) ?_ | refine eq_i64 (by omega) ?_ | refine el_tn ?_) | ((with_reducible refine br_dt ?_ ?_); focus omega) | ((with_reducible refine br_df ?_ ?_); focus omega) | ((with_reducible apply br_dq hQz) <;> (try intro hsp hQz)) | ((with_reducible refine ck_x ?_ ?_); focus (first | omega | rfl | assumption | decide | (simp only [List.length_map, List.length_cons, List.length_nil]; omega))) | (with_reducible first | refine eq_tn ?_ | refine eq_tn1 ?_ | refine eq_tn2 ?_ | refine eq_m1 ?_ | refine eq_m2 ?_ | refine eq_zm ?_ | refine eq_z ?_ | refine len_map ?_ | refine len_sl ?_ | refine len_nils ?_ | refine len_own' ?_ | refine len_isl ?_ | refine eq_u8 (by omega) ?_ | refine eq_u16 (by omega) ?_) | refine eq_of (by with_reducible assumption) ?_ | (with_reducible first | refine eq_rfl ?_ | refine ChkX.mk (by kernel_rfl) ?_ | refine code_q rfl ?_ | refine code_d (by decide +kernel) ?_ | refine end_go rfl ?_) | refine cx_pureS (by assumption) ?_ | refine len_map ?_ | refine len_isl ?_ | refine el_of rfl rfl ?_ | refine del_own ?_ | refine del_own' rfl ?_ | refine as_go rfl ?_ | refine rd_go rfl ?_ | refine rg_end rfl ?_ | refine flat_ownX ?_ | refine EqLX.mk ?_ | ((with_reducible apply br_bq hQz) <;> (try intro hsp hQz)) | exact hQz.out)) <;> (try (conv => whnf))))) : p := h ⟨hq⟩
theorem wx_Egn {p q : Prop} (hq : q) (h : HidP q → p := by (intro hQz; ((repeat' ((try (conv => whnf)); first | (with_reducible first | refine run_cons ?_ | refine runq_cons ?_ | refine code_seq ?_ | refine code_reg ?_ | refine code_cond ?_ | refine run_nil ?_ | refine runq_nil ?_ | refine rund_op rfl ?_ | refine rund_nil ?_ | refine code_block ?_ | refine code_skip ?_ | refine code_exit ?_ | refine code_ret ?_ | refine code_range ?_ | refine rund_fast (by decide +kernel) ?_ | refine rund_slow (by decide +kernel) ?_ | refine br_tt ?_ | refine br_ff ?_ | refine br_n ?_ | refine br_and ?_ | refine br_or ?_ | refine br_t (by assumption) ?_ | refine br_f (by assumption) ?_ | refine eq_i64 (by omega) ?_ | refine el_tn ?_) | ((with_reducible refine br_dt ?_ ?_); focus omega) | ((with_reducible refine br_df ?_ ?_); focus omega) | ((with_reducible apply br_dq hQz) <;> (try intro hsp hQz)) | ((with_reducible refine ck_x ?_ ?_); focus (first | omega | rfl | assumption | decide | (simp only [List.length_map, List.length_cons, List.length_nil]; omega))) | (with_reducible first | refine eq_tn ?_ | refine eq_tn1 ?_ | refine eq_tn2 ?_ | refine eq_m1 ?_ | refine eq_m2 ?_ | refine eq_zm ?_ | refine eq_z ?_ | refine len_map ?_ | refine len_sl ?_ | refine len_nils ?_ | refine len_own' ?_ | refine len_isl ?_ | refine eq_u8 (by omega) ?_ | refine eq_u16 (by omega) ?_) | refine eq_of (by with_reducible assumption) ?_ | refine el_vw (by first | assumption | omega) (by with_reducible assumption) ?_ | refine el_vw (by first | assumption | (rw [List.length_map]; omega) | omega) (by with_reducible assumption) ?_ | (with_reducible first | refine eq_rfl ?_ | refine ChkX.mk (by kernel_rfl) ?_ | refine code_d (by decide +kernel) ?_ | refine end_go rfl ?_) | refine cx_pureS (by assumption) ?_ | refine dcx_pureS (by assumption) ?_ | refine cx_Rd (by assumption) ?_ | refine apps_own (f := vwC) (l2 := [(ua, uk, uf, false)]) vw_len (src_of rfl rfl) (fun hz => by first | (simp [lk, lk_ownE hz]; done) | exact lk_ownE hz) (fun hz => by first | (simp [lk, lk_ownN hz]; done) | exact lk_ownN hz) rfl (by decide) ⟨by omega, by omega⟩ rfl ?_ | (refine appx_own (f := vwC) (l2 := [(ua, uk, uf, false)]) vw_len (src_of rfl rfl) (fun hz => by first | (simp [lk, lk_ownE hz]; done) | exact lk_ownE hz) rfl (by decide) ⟨by omega, by omega⟩ ?_ ?_ <;> intro hzz) | refine apps_own (f := vwC) (l2 := [(ua, uk, uf, !decide ((ua : Int) = (a : Int)))]) vw_len (src_of rfl rfl) (fun hz => by first | (simp [lk, lk_ownE hz]; done) | exact lk_ownE hz) (fun hz => by first | (simp [lk, lk_ownN hz]; done) | exact lk_ownN hz) rfl (by decide) ⟨by omega, by omega⟩ rfl ?_ | (refine appx_own (f := vwC) (l2 := [(ua, uk, uf, !decide ((ua : Int) = (a : Int)))]) vw_len (src_of rfl rfl) (fun hz => by first | (simp [lk, lk_ownE hz]; done) | exact lk_ownE hz) rfl (by decide) ⟨by omega, by omega⟩ ?_ ?_ <;> intro hzz) | (refine cx_in hmix b21 rfl ?_; unfold c21) | refine cx_tx (by assumption) rfl rfl rfl rfl rfl rfl (by decide) rfl ?_ | refine cx_tab (by assumption) rfl rfl rfl rfl rfl (by decide) rfl ?_ | refine cx_locS (by assumption) rfl (by decide) ?_ | refine dcx_tab (by assumption) rfl rfl rfl rfl rfl rfl rfl ?_ | refine dcx_tx (by assumption) rfl rfl rfl rfl rfl rfl rfl rfl ?_ | refine cx_fnU (fnU_frzR [6] hsame.out plainG ⟨frz_plain plain_vs, frz_row vw_len (fun c => vw_plain' c) (by first | (simp; done) | fail) rfl (by omega), trivial⟩ scal_bool) ?_ | refine dcx_fnU (fnU_frzR [6] hsame.out plainG ⟨frz_plain plain_vs, frz_row vw_len (fun c => vw_plain' c) (by first | (simp; done) | fail) rfl (by omega), trivial⟩ scal_bool) ?_ | refine len_map ?_ | refine len_isl ?_ | refine el_of rfl rfl ?_ | refine del_own ?_ | refine del_own' rfl ?_ | refine as_go rfl ?_ | refine rd_go rfl ?_ | refine rg_end rfl ?_ | refine flat_ownX ?_ | refine EqLX.mk ?_ | ((with_reducible apply br_bq hQz) <;> (try intro hsp hQz)) | exact hQz.out)) <;> (try (conv => whnf))))) : p := h ⟨hq⟩
theorem plain_isl0 : Plain (.isl []) := plain_isl fun e he => by cases he
theorem q_same_nil {M : List Vw} (h : M.length = 0) : PureS 16 [.isl (M.map vwC), .nils] (.bool true) := by
  obtain rfl := List.eq_nil_of_length_eq_zero h
  exact ⟨(q_same (L := []) (Nat.zero_le _)).out.weak (WkAs.args ⟨wkA_rfl, wkA_nil, trivial⟩)⟩
section
variable {L : List Vw} {R : List Rw}
theorem forks_no {i e : Int} (x y : Nat) (hx2 : x < 256) (hy2 : y < 256) (h : ChkR R i e) (hn : e ≠ 0 ∨ 60 < R.length) : PureS 9 [.agg [.isl (R.map rwC)], .int .u8 (x : Nat), .int .u8 (y : Nat)] (.bool true) := by
  refine PureS.mk (pure_x hmix b9 plainG ⟨plain_rsA, plain_int, plain_int, trivial⟩ plain_bool rfl ?_)
  unfold c9
  have hr := l_ready_no h hn
  have ha := k_awake
  have q1 := m64 (t := x)
  have q2 := m64 (t := y)
  (refine wx_Eg ?_; repeat' (first | with_reducible refine And.intro ?_ ?_ | intro hsp))
  all_goals exact end_bool rfl
set_option maxHeartbeats 1600000 in
set_option maxRecDepth 20000 in
theorem forks_same (x y : Nat) (hx2 : x < 256) (hy2 : y < 256) (hs : srt L) (hl : L.length ≤ 60) (ho : ∀ v ∈ L, v.1 < 64 ∧ v.2.1 < 1024 ∧ v.2.2.1 < 1024) (hab : x % 64 = y % 64 ∨ (ofA (y % 64) L).length ≠ 0) : PureS 9 [.agg [.isl (L.map vwC)], .int .u8 (x : Nat), .int .u8 (y : Nat)] (.bool true) := by
  obtain ⟨t, s, ht, hsy, hr⟩ := l_ready_any hs hl ho
  refine PureS.mk (pure_x hmix b9 plainG ⟨plain_vsA, plain_int, plain_int, trivial⟩ plain_bool rfl ?_)
  unfold c9
  have ha := k_awake
  have q1 := m64 (t := x)
  have q2 := m64 (t := y)
  have q3 := q_of (L := L) ((y % 64 : Nat) : Int) (by omega)
  rw [ofI_nat] at q3
  generalize x % 64 = a at *
  generalize y % 64 = b at *
  have hlen : ((ofA b L).map vwC).length = (ofA b L).length := List.length_map _
  (refine wx_Egn ?_; repeat' (first | with_reducible refine And.intro ?_ ?_ | intro hsp))
  all_goals first | exact end_bool rfl | (exfalso; omega)
set_option maxHeartbeats 1600000 in
set_option maxRecDepth 20000 in
theorem forks_ok (x y : Nat) (hx2 : x < 256) (hy2 : y < 256) (hs : srt L) (hl : L.length ≤ 60) (ho : ∀ v ∈ L, v.1 < 64 ∧ v.2.1 < 1024 ∧ v.2.2.1 < 1024) (hab : x % 64 ≠ y % 64) (hnb : ofA (y % 64) L = []) : PureS 9 [.agg [.isl (L.map vwC)], .int .u8 (x : Nat), .int .u8 (y : Nat)] (.bool true) := by
  obtain ⟨t, s, ht, hsy, hr⟩ := l_ready_any hs hl ho
  refine PureS.mk (pure_x hmix b9 plainG ⟨plain_vsA, plain_int, plain_int, trivial⟩ plain_bool rfl ?_)
  unfold c9
  have ha := k_awake
  have q1 := m64 (t := x)
  have q2 := m64 (t := y)
  have ha4 : x % 64 < 64 := Nat.mod_lt _ (by omega)
  have hb4 : y % 64 < 64 := Nat.mod_lt _ (by omega)
  generalize x % 64 = a at *
  generalize y % 64 = b at *
  have q3 := q_of (L := L) (b : Int) (by omega)
  rw [ofI_nat, hnb] at q3
  have q4 := q_of (L := L) (a : Int) (by omega)
  rw [ofI_nat] at q4
  have hOl : (ofA a L).length ≤ L.length := List.length_filter_le ..
  obtain ⟨t1, M, h1, hM, d1⟩ := t_Fork ht hab ha4 hb4 hnb (by omega)
  obtain ⟨hofa, hofb⟩ := frk_ofA hs h1.srt hab hnb hM
  have hno := frk_noA hs h1.srt hab hnb hM
  have hgone := frk_gone hab hofa hofb
  have d2 := t_walked h1 ha4
  have d3 := t_walked h1 hb4
  rw [hofa] at d2
  rw [hofb] at d3
  have hla : ((ofA a L).map roV).length = (ofA a L).length := List.length_map _
  have hlb : ((ofA a L).map (cpV b)).length = (ofA a L).length := List.length_map _
  (refine wx_Egn ?_; repeat' (first | with_reducible refine And.intro ?_ ?_ | intro hsp))
  all_goals try (exfalso; simp at hsp; done)
  (refine loop_x [3, 7, 8, 9, 10, 11, 13, 14] (fun (i : Nat) => [(15, .int .i64 (i : Nat))]) (fun (i : Nat) => ⟨[(0, .cells [.isl (L.map vwC)])] ++ rdN t1 s 1 2 3 4 5 6, 7⟩) (fun (i : Nat) => i ≤ (ofA a L).length) (fun (i : Nat) => (ofA a L).length - i) (0) [] rfl (fun _ => by first | exact Nat.zero_le _ | (dsimp only; omega)) ?_ (by ((try (conv => whnf)); exact wkx_Eg)) ?_)
  · exact Nat.zero_le _
  clear hsp d1 d2 d3
  intro i hi
  by_cases hil : i < (ofA a L).length
  · have hum := nth_mem (d := dV) hil
    have e1 : nth dV ((ofA a L).map roV) i = roV (nth dV (ofA a L) i) := by rw [nth_get (by omega), nth_get hil, List.getElem_map]
    have e2 : nth dV ((ofA a L).map (cpV b)) i = cpV b (nth dV (ofA a L) i) := by rw [nth_get (by omega), nth_get hil, List.getElem_map]
    have hua := (mem_ofA.1 hum).2
    have huf : (nth dV (ofA a L) i).2.2.1 ∈ frs L := frs_mem (mem_ofA.1 hum).1
    have hok := ho _ (mem_ofA.1 hum).1
    have m1 : roV (nth dV (ofA a L) i) ∈ M := (mem_ofA.1 (show roV (nth dV (ofA a L) i) ∈ ofA a M by rw [hofa]; exact List.mem_map.2 ⟨_, hum, rfl⟩)).1
    have m2 : cpV b (nth dV (ofA a L) i) ∈ M := (mem_ofA.1 (show cpV b (nth dV (ofA a L) i) ∈ ofA b M by rw [hofb]; exact List.mem_map.2 ⟨_, hum, rfl⟩)).1
    have y1 := x_byteOf h1 hsy (v := roV (nth dV (ofA a L) i)) huf m1 (k := 5) (by omega)
    have y2 := x_byteOf h1 hsy (v := cpV b (nth dV (ofA a L) i)) huf m2 (k := 5) (by omega)
    have z1 := t_where_ro h1 m1 (at_ := (nth dV (ofA a L) i).2.1 * 64) (by omega) (by show (nth dV (ofA a L) i).2.1 = _; omega) rfl
    have z2 := t_where_ro h1 m2 (at_ := (nth dV (ofA a L) i).2.1 * 64) (by omega) (by show (nth dV (ofA a L) i).2.1 = _; omega) rfl
    have hbb := hsy.byte (nth dV (ofA a L) i).2.2.1 5
    generalize nth dV (ofA a L) i = u at *
    obtain ⟨ua, uk, uf, uw⟩ := u
    have e1' : nth dV ((ofA a L).map roV) i = (ua, uk, uf, false) := e1
    have e2' : nth dV ((ofA a L).map (cpV b)) i = (b, uk, uf, false) := e2
    clear e1 e2
    unfold roV at y1 z1
    unfold cpV at y2 z2
    unfold vwC at y1 y2
    dsimp only at hua y1 y2 z1 z2 hbb hok
    rw [show ((uk * 64 : Nat) : Int) = (uk : Int) * 64 by omega] at z1 z2
    subst hua
    generalize s.B uf 5 = y at *
    (refine wx_Egn ?_; repeat' (first | with_reducible refine And.intro ?_ ?_ | intro hsp))
    all_goals exact next_x (i + 1) [] (by (try dsimp only); omega) (by first | omega | (dsimp only; omega)) rfl (by exact wkx_Eg)
  · obtain rfl : i = (ofA a L).length := by omega
    obtain ⟨t2, h2, d5⟩ := t_Drop h1 hb4
    rw [hgone] at d5
    rw [hno] at h2
    have hsave := t_Save h2
    have hwl : (L.map (wnV a)).length = L.length := List.length_map _
    have hsame := q_same (L := L.map (wnV a)) (by omega)
    (refine wx_Egn ?_; repeat' (first | with_reducible refine And.intro ?_ ?_ | intro hsp))
    clear d5
    (refine loop_x [3, 7, 9, 12, 17] (fun (i : Nat) => [(18, ownV 6 4 ((L.take i).map (wnV a)).length), (19, .int .i64 (i : Nat))]) (fun (i : Nat) => ⟨[(0, .cells [.isl (L.map vwC)])] ++ tabN t2 1 2 3 4 5 ++ ownH 6 vwC ((L.take i).map (wnV a)), 7⟩) (fun (i : Nat) => i ≤ L.length) (fun (i : Nat) => L.length - i) (0) [] rfl (fun _ => by first | exact Nat.zero_le _ | (dsimp only; omega)) ?_ (by ((try (conv => whnf)); (rw [List.take_zero, List.map_nil]); exact wkx_Eg1)) ?_)
    · exact Nat.zero_le _
    intro i hi
    have hml : ((L.take i).map (wnV a)).length = i := by rw [List.length_map, List.length_take]; omega
    by_cases hil : i < L.length
    · have htk : (L.take (i + 1)).map (wnV a) = (L.take i).map (wnV a) ++ [wnV a (nth dV L i)] := by rw [take_nth (d := dV) hil, List.map_append]; rfl
      generalize hu : nth dV L i = u at *
      obtain ⟨ua, uk, uf, uw⟩ := u
      cases uw
      · have htk' : (L.take (i + 1)).map (wnV a) = (L.take i).map (wnV a) ++ [(ua, uk, uf, false)] := htk
        (refine wx_Egn ?_; repeat' (first | with_reducible refine And.intro ?_ ?_ | intro hsp))
        all_goals exact next_x (i + 1) [(6, 9)] (by (try dsimp only); omega) (by first | omega | (dsimp only; omega)) rfl (by ((try dsimp only); rw [htk']); exact wkx_Eg1)
      · have htk' : (L.take (i + 1)).map (wnV a) = (L.take i).map (wnV a) ++ [(ua, uk, uf, !decide ((ua : Int) = (a : Int)))] := by
          have hb : decide (ua = a) = decide ((ua : Int) = (a : Int)) := decide_eq_decide.2 (by omega)
          rw [htk]
          show _ ++ [(ua, uk, uf, true && !decide (ua = a))] = _
          rw [hb]; rfl
        (refine wx_Egn ?_; repeat' (first | with_reducible refine And.intro ?_ ?_ | intro hsp))
        all_goals exact next_x (i + 1) [(6, 9)] (by (try dsimp only); omega) (by first | omega | (dsimp only; omega)) rfl (by ((try dsimp only); rw [htk']); exact wkx_Eg1)
    · obtain rfl : i = L.length := by omega
      rw [List.take_length] at hml ⊢
      by_cases hz : L.length = 0
      · have hnn := q_same_nil (M := L.map (wnV a)) (by omega)
        rw [show (L.map (wnV a)).length = 0 by omega, own_z, ownH_z (by omega)]
        clear hsame
        (refine wx_Egn ?_; repeat' (first | with_reducible refine And.intro ?_ ?_ | intro hsp))
        all_goals first | exact end_bool rfl | exact absurd rfl hsp | (exfalso; simp at hsp; done)
      · rw [own_s (by omega), ownH_s (by omega)]
        (refine wx_Egn ?_; repeat' (first | with_reducible refine And.intro ?_ ?_ | intro hsp))
        all_goals first | exact end_bool rfl | exact absurd rfl hsp | (exfalso; simp at hsp; done)
theorem law_forks (R : List Rw) (x y : Nat) (hx2 : x < 256) (hy2 : y < 256) : PureS 9 [.agg [.isl (R.map rwC)], .int .u8 (x : Nat), .int .u8 (y : Nat)] (.bool true) := by
  obtain ⟨i, e, h⟩ := chk_ex R
  by_cases hn : e ≠ 0 ∨ 60 < R.length
  · exact forks_no x y hx2 hy2 h hn
  · have he : e = 0 := Classical.byContradiction fun hc => hn (.inl hc)
    subst he
    obtain ⟨L, hR, h1, _, h3⟩ := chk_views h
    have hlen : R.length ≤ 60 := Nat.le_of_not_lt fun hc => hn (.inr hc)
    subst hR
    rw [rw_map]
    rw [List.length_map] at hlen
    by_cases hab : x % 64 = y % 64 ∨ (ofA (y % 64) L).length ≠ 0
    · exact forks_same x y hx2 hy2 h1 hlen h3 hab
    · exact forks_ok x y hx2 hy2 h1 hlen h3 (fun e => hab (.inl e)) (List.eq_nil_of_length_eq_zero (Classical.byContradiction fun e => hab (.inr e)))
end
end Go.Proofs.Ytccbhbdbmmkcdaa.Sh
