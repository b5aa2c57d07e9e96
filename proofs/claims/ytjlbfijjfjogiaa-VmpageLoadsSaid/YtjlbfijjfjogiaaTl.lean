/-
  Are two states equal? (SamePlan, SameState, Same of the document.)
-/
import Derived.Test.YtjlbfijjfjogiaaVmD
set_option linter.unusedSimpArgs false
set_option linter.unusedVariables false
namespace Go.Pol
open Go.Am
theorem eqL_ints : ∀ ks : List (IntKind × Int × Int), ∃ t, eqL (List.replicate ks.length 0) (ks.map fun q => AV.int q.1 q.2.1) (ks.map fun q => AV.int q.1 q.2.2) = some t ∧ (t = true ↔ (ks.map fun q => AV.int q.1 q.2.1) = ks.map fun q => AV.int q.1 q.2.2)
  | [] => ⟨true, rfl, ⟨fun _ => rfl, fun _ => rfl⟩⟩
  | (k, a, b) :: ks => by
    obtain ⟨t, h1, h2⟩ := eqL_ints ks
    refine ⟨(a == b) && t, ?_, ?_⟩
    · simp only [List.length_cons, List.replicate_succ, List.map_cons, eqL, eq1, if_true, Option.bind_some, h1, Option.map_some]
    · rw [Bool.and_eq_true, beq_iff_eq, h2, List.map_cons, List.map_cons, List.cons.injEq, AV.int.injEq]
      simp
theorem eq_rn (r r' : Rn) : ∃ t, eqL [0, 0, 0] (rnA r) (rnA r') = some t ∧ (t = true ↔ rnA r = rnA r') := eqL_ints [(.i64, r.p, r'.p), (.i64, r.n, r'.n), (.i64, r.k, r'.k)]
theorem eq_rl (r r' : Rl) : ∃ t, eqL [0, 0, 0, 0] (rlA r) (rlA r') = some t ∧ (t = true ↔ rlA r = rlA r') := eqL_ints [(.i64, r.k, r'.k), (.i64, r.f, r'.f), (.i64, r.e, r'.e), (.i64, r.t, r'.t)]
theorem eq_7 (C D : Nat → Int) : ∃ t, eqL [0, 0, 0, 0, 0, 0, 0] (arr7 C) (arr7 D) = some t ∧ (t = true ↔ arr7 C = arr7 D) := eqL_ints [(.i64, C 0, D 0), (.i64, C 1, D 1), (.i64, C 2, D 2), (.i64, C 3, D 3), (.i64, C 4, D 4), (.i64, C 5, D 5), (.i64, C 6, D 6)]
theorem eq_dt (d e : Dt) : ∃ t, eqL (List.replicate 65 0) (dtA d) (dtA e) = some t ∧ (t = true ↔ dtA d = dtA e) := by
  have h := eqL_ints ((.i64, d.p, e.p) :: (List.range 64).map fun j => (.u8, d.b j, e.b j))
  have e1 : ∀ (f : Nat → Int) (g : Nat → IntKind × Int × Int), ((List.range 64).map g).map (fun q => AV.int q.1 q.2.1) = (List.range 64).map fun j => AV.int (g j).1 (g j).2.1 := fun f g => by rw [List.map_map]; rfl
  simp only [List.length_cons, List.length_map, List.length_range, List.map_cons, List.map_map] at h
  unfold dtA byA
  exact h
theorem maps_eq {α : Type} {f : α → List AV} (d : α) {l m : List α} (hl : l.length = m.length) (h : ∀ j, j < l.length → f (nth d l j) = f (nth d m j)) : l.map f = m.map f := by
  refine List.ext_getElem (by simpa using hl) fun j h1 h2 => ?_
  simp only [List.getElem_map]
  have := h j (by simpa using h1)
  rw [nth_get (by simpa using h1), nth_get (by simpa using h2)] at this
  exact this
theorem maps_ne {α : Type} {f : α → List AV} (d : α) {l m : List α} {j : Nat} (hj : j < l.length) (hj2 : j < m.length) (h : f (nth d l j) ≠ f (nth d m j)) : l.map f ≠ m.map f := fun e => h (by
  have := congrArg (fun x : List (List AV) => x[j]?) e
  simp only [List.getElem?_map, List.getElem?_eq_getElem hj, List.getElem?_eq_getElem hj2, Option.map_some, Option.some.injEq] at this
  rw [nth_get hj, nth_get hj2]; exact this)
theorem maps_len {α : Type} {f : α → List AV} {l m : List α} (h : l.map f = m.map f) : l.length = m.length := by have := congrArg List.length h; simpa using this
theorem el_row {α : Type} {f : α → List AV} {l : List α} {j sz : Nat} {K : List AV → Prop} {d : α} {row : List AV} (hf : ∀ x, (f x).length = sz) (hj : j < l.length) (hx : f (Go.Pol.nth d l j) = row) (hk : K row) : ElX (l.map f) j sz K := el_mapE hf hj rfl (by rw [hx]; exact hk)
theorem row_drop {y : List AV} : y.drop 0 = y := rfl
theorem row_take {y : List AV} {n : Nat} (h : y.length = n) : y.take n = y := List.take_of_length_le (by omega)
def sameSt (l : List Rl) (C H : Nat → Int) (l' : List Rl) (C' H' : Nat → Int) : Prop := l.map rlA = l'.map rlA ∧ arr7 C = arr7 C' ∧ arr7 H = arr7 H'
/-- Equal states. -/
def sameV (x y : Vs) : Prop := (x.R.map rnA = y.R.map rnA ∧ x.U.map inA = y.U.map inA ∧ x.D.map dtA = y.D.map dtA) ∧ sameSt x.l x.C x.H y.l y.C y.H
theorem sameV_rfl {x : Vs} : sameV x x := ⟨⟨rfl, rfl, rfl⟩, rfl, rfl, rfl⟩
def dRn : Rn := ⟨0, 0, 0⟩
def dDt : Dt := ⟨0, fun _ => 0⟩
end Go.Pol
namespace Go.Proofs.Ytjlbfijjfjogiaa
open Go Go.Am Go.Pol
theorem wkx_Tl {p : Prop} (h : p := by (refine weak_s (by exact oneOf_of rfl) (by exact subH_of rfl) (by intro hs; (repeat' ((try (conv => whnf)); first | with_reducible exact True.intro | with_reducible refine And.intro ?_ ?_ | (with_reducible refine WkX.mk ?_; first | exact wk_undef | exact wk_int (by first | rfl | omega | (dsimp only; omega)) | exact wk_bool rfl | exact wk_ptr rfl (by first | decide | simp | omega) | exact wk_sl rfl (by first | decide | simp | omega) (by first | rfl | omega | simp) (by first | omega | simp) (by first | omega | simp) | exact wk_own rfl (by first | decide | simp | omega) | exact wk_nil0 (by first | rfl | simp) | exact wk_slown rfl (by first | decide | omega | (simp; done)) (by first | omega | (simp; done)) (by first | rfl | omega | (simp; done) | (simp; omega)) | exact wk_plain hs (by (first | assumption | exact plain_int | exact plain_bool | exact plain_undef | exact plain_nils | exact plain_nilp | exact plain_nilf | exact plain_str | with_reducible apply plain_rl | with_reducible apply plain_rls | with_reducible apply plain_pl | with_reducible apply plain_ii | with_reducible apply plain_st | with_reducible apply plain_stE | with_reducible apply plain_zst | with_reducible apply plain_zstE | with_reducible apply plain_irl | with_reducible apply plain_mk | with_reducible apply plain_stB | with_reducible apply plain_zstB | with_reducible apply plain_isls rnA_plain | with_reducible apply plain_isls inA_plain | with_reducible apply plain_isls dtA_plain | with_reducible apply plain_vs)) | (with_reducible refine wk_fn ?_ ?_ <;> repeat' (first | with_reducible exact wkl_nil | with_reducible refine wkl_cons ?_ ?_ | exact wk_ptr rfl (by first | decide | simp | omega))) | (with_reducible refine wk_agg ?_; repeat' (first | with_reducible exact wkl_nil | with_reducible refine wkl_cons ?_ ?_ | exact wk_int (by first | rfl | omega | (dsimp only; omega)) | exact wk_bool rfl)) | exact wk_yld rfl (by first | decide | simp | omega))))) (by intro hs; (try dsimp only); (repeat' (first | with_reducible exact wko_nil | refine wko_plain hs (by first | decide | omega | simp) rfl (by first | rfl) (by (first | with_reducible assumption | with_reducible apply rlA_plain _ | with_reducible apply plain_flat rlA_plain | with_reducible apply stA_plain | with_reducible apply vsA_plain _ | with_reducible apply plain_map (fun _ => plain_int) | with_reducible apply plain_map (fun _ => plain_bool) | ((repeat' (first | exact plain_all0 | refine plain_all2 ?_ ?_ | exact plain_int | first | assumption | exact plain_int | exact plain_bool | exact plain_undef | exact plain_nils | exact plain_nilp | exact plain_nilf | exact plain_str | with_reducible apply plain_rl | with_reducible apply plain_rls | with_reducible apply plain_pl | with_reducible apply plain_ii | with_reducible apply plain_st | with_reducible apply plain_stE | with_reducible apply plain_zst | with_reducible apply plain_zstE | with_reducible apply plain_irl | with_reducible apply plain_mk | with_reducible apply plain_stB | with_reducible apply plain_zstB | with_reducible apply plain_isls rnA_plain | with_reducible apply plain_isls inA_plain | with_reducible apply plain_isls dtA_plain | with_reducible apply plain_vs)); done) | ((refine plain_app ?_ ?_) <;> (first | with_reducible assumption | with_reducible apply rlA_plain _ | with_reducible apply plain_flat rlA_plain | with_reducible apply stA_plain | with_reducible apply vsA_plain _ | with_reducible apply plain_map (fun _ => plain_int) | with_reducible apply plain_map (fun _ => plain_bool) | ((repeat' (first | exact plain_all0 | refine plain_all2 ?_ ?_ | exact plain_int | first | assumption | exact plain_int | exact plain_bool | exact plain_undef | exact plain_nils | exact plain_nilp | exact plain_nilf | exact plain_str | with_reducible apply plain_rl | with_reducible apply plain_rls | with_reducible apply plain_pl | with_reducible apply plain_ii | with_reducible apply plain_st | with_reducible apply plain_stE | with_reducible apply plain_zst | with_reducible apply plain_zstE | with_reducible apply plain_irl | with_reducible apply plain_mk | with_reducible apply plain_stB | with_reducible apply plain_zstB | with_reducible apply plain_isls rnA_plain | with_reducible apply plain_isls inA_plain | with_reducible apply plain_isls dtA_plain | with_reducible apply plain_vs)); done))))) ?_ | refine wko_cells (by first | decide | omega | simp) rfl (by repeat' (first | with_reducible exact wkl_nil | with_reducible refine wkl_cons ?_ ?_ | (first | exact wk_undef | exact wk_int (by first | rfl | omega | (dsimp only; omega)) | exact wk_bool rfl | exact wk_ptr rfl (by first | decide | simp | omega) | exact wk_sl rfl (by first | decide | simp | omega) (by first | rfl | omega | simp) (by first | omega | simp) (by first | omega | simp) | exact wk_own rfl (by first | decide | simp | omega) | exact wk_nil0 (by first | rfl | simp) | exact wk_slown rfl (by first | decide | omega | (simp; done)) (by first | omega | (simp; done)) (by first | rfl | omega | (simp; done) | (simp; omega)) | exact wk_plain hs (by (first | assumption | exact plain_int | exact plain_bool | exact plain_undef | exact plain_nils | exact plain_nilp | exact plain_nilf | exact plain_str | with_reducible apply plain_rl | with_reducible apply plain_rls | with_reducible apply plain_pl | with_reducible apply plain_ii | with_reducible apply plain_st | with_reducible apply plain_stE | with_reducible apply plain_zst | with_reducible apply plain_zstE | with_reducible apply plain_irl | with_reducible apply plain_mk | with_reducible apply plain_stB | with_reducible apply plain_zstB | with_reducible apply plain_isls rnA_plain | with_reducible apply plain_isls inA_plain | with_reducible apply plain_isls dtA_plain | with_reducible apply plain_vs)) | (with_reducible refine wk_fn ?_ ?_ <;> repeat' (first | with_reducible exact wkl_nil | with_reducible refine wkl_cons ?_ ?_ | exact wk_ptr rfl (by first | decide | simp | omega))) | (with_reducible refine wk_agg ?_; repeat' (first | with_reducible exact wkl_nil | with_reducible refine wkl_cons ?_ ?_ | exact wk_int (by first | rfl | omega | (dsimp only; omega)) | exact wk_bool rfl)) | exact wk_yld rfl (by first | decide | simp | omega)))) ?_ | refine wko_loop (by first | decide | omega | simp) rfl (by ((try subst hF); (try subst hF2); exact wkl_sd (wkf_sget (by (repeat' ((try (conv => whnf)); first | with_reducible exact True.intro | with_reducible refine And.intro ?_ ?_ | (with_reducible refine WkX.mk ?_; first | exact wk_undef | exact wk_int (by first | rfl | omega | (dsimp only; omega)) | exact wk_bool rfl | exact wk_ptr rfl (by first | decide | simp | omega) | exact wk_sl rfl (by first | decide | simp | omega) (by first | rfl | omega | simp) (by first | omega | simp) (by first | omega | simp) | exact wk_own rfl (by first | decide | simp | omega) | exact wk_nil0 (by first | rfl | simp) | exact wk_slown rfl (by first | decide | omega | (simp; done)) (by first | omega | (simp; done)) (by first | rfl | omega | (simp; done) | (simp; omega)) | exact wk_plain hs (by (first | assumption | exact plain_int | exact plain_bool | exact plain_undef | exact plain_nils | exact plain_nilp | exact plain_nilf | exact plain_str | with_reducible apply plain_rl | with_reducible apply plain_rls | with_reducible apply plain_pl | with_reducible apply plain_ii | with_reducible apply plain_st | with_reducible apply plain_stE | with_reducible apply plain_zst | with_reducible apply plain_zstE | with_reducible apply plain_irl | with_reducible apply plain_mk | with_reducible apply plain_stB | with_reducible apply plain_zstB | with_reducible apply plain_isls rnA_plain | with_reducible apply plain_isls inA_plain | with_reducible apply plain_isls dtA_plain | with_reducible apply plain_vs)) | (with_reducible refine wk_fn ?_ ?_ <;> repeat' (first | with_reducible exact wkl_nil | with_reducible refine wkl_cons ?_ ?_ | exact wk_ptr rfl (by first | decide | simp | omega))) | (with_reducible refine wk_agg ?_; repeat' (first | with_reducible exact wkl_nil | with_reducible refine wkl_cons ?_ ?_ | exact wk_int (by first | rfl | omega | (dsimp only; omega)) | exact wk_bool rfl)) | exact wk_yld rfl (by first | decide | simp | omega)))))))) ?_ | exact wko_nil))))) : p := h
theorem wtl {p q : Prop} (hq : q) (h : HidP q → p := by (intro hQz; ((repeat' ((try (conv => whnf)); first | (with_reducible first | refine run_cons ?_ | refine runq_cons ?_ | refine code_seq ?_ | refine code_reg ?_ | refine code_cond ?_ | refine run_nil ?_ | refine runq_nil ?_ | refine rund_op rfl ?_ | refine rund_nil ?_ | refine code_block ?_ | refine code_skip ?_ | refine code_exit ?_ | refine code_ret ?_ | refine code_range ?_ | refine rund_fast (by decide +kernel) ?_ | refine rund_slow (by decide +kernel) ?_ | refine br_tt ?_ | refine br_ff ?_ | refine br_n ?_ | refine br_and ?_ | refine br_or ?_ | refine br_t (by assumption) ?_ | refine br_f (by assumption) ?_ | refine eq_i64 (by omega) ?_ | refine el_tn ?_) | ((with_reducible refine br_dt ?_ ?_); focus omega) | ((with_reducible refine br_df ?_ ?_); focus omega) | ((with_reducible apply br_dq hQz) <;> (try intro hsp hQz)) | ((with_reducible refine ck_x ?_ ?_); focus (first | omega | rfl | assumption | decide | (simp only [List.length_map, List.length_cons, List.length_nil]; omega))) | (with_reducible first | refine eq_tn ?_ | refine eq_tn1 ?_ | refine eq_tn2 ?_ | refine eq_m1 ?_ | refine eq_m2 ?_ | refine eq_zm ?_ | refine eq_z ?_ | refine len_map ?_ | refine len_sl ?_ | refine len_nils ?_ | refine len_own' ?_ | refine len_isl ?_ | refine eq_u8 (by omega) ?_ | refine eq_u16 (by omega) ?_) | refine el_row rl_len (by first | assumption | omega) (by with_reducible assumption) ?_ | refine el_row rn_len (by first | assumption | omega) (by with_reducible assumption) ?_ | refine el_row dt_len (by first | assumption | omega) (by with_reducible assumption) ?_ | refine el_row in_len (by first | assumption | omega) (by with_reducible assumption) ?_ | refine eqlx_of (by with_reducible assumption) ?_ | refine dropK_of (Nat.zero_le _) row_drop ?_ | refine takeK_of (by omega) (row_take (by with_reducible assumption)) ?_ | (with_reducible first | refine eq_rfl ?_ | refine ChkX.mk (by kernel_rfl) ?_ | refine code_q rfl ?_ | refine code_d (by decide +kernel) ?_ | refine end_go rfl ?_) | refine cx_pureS (by assumption) ?_ | refine dcx_pureS (by assumption) ?_ | refine qcx_pureS (by assumption) ?_ | refine len_map ?_ | refine len_isl ?_ | refine el_of rfl rfl ?_ | refine del_own ?_ | refine del_own' rfl ?_ | refine as_go rfl ?_ | refine rd_go rfl ?_ | refine rg_end rfl ?_ | refine flat_ownX ?_ | refine EqLX.mk ?_ | ((with_reducible apply br_bq hQz) <;> (try intro hsp hQz)) | exact hQz.out)) <;> (try (conv => whnf))))) : p := h ⟨hq⟩
section
variable {l m : List Rl} {C H C' H' : Nat → Int}
theorem r_samePlan (hlen : l.length ≤ 100000) {b : Bool} (hb : b = true ↔ l.map rlA = m.map rlA) : PureS 68 [.agg [.isl (l.map rlA)], .agg [.isl (m.map rlA)]] (.bool b) := by
  refine PureS.mk (pure_x hmix b68 plainG ⟨plain_pl, plain_pl, trivial⟩ plain_bool rfl ?_)
  unfold c68
  by_cases hl : l.length = m.length
  · (refine wtl ?_; repeat' (first | with_reducible refine And.intro ?_ ?_ | intro hsp))
    all_goals first | (exfalso; omega) | skip
    (refine loop_x [2, 3] (fun (i : Nat) => [(5, .int .i64 (i : Nat))]) (fun (i : Nat) => ⟨[(0, .cells [.isl (l.map rlA)]), (1, .cells [.isl (m.map rlA)])], 2⟩) (fun (i : Nat) => i ≤ l.length ∧ ∀ j, j < i → rlA (nth dR l j) = rlA (nth dR m j)) (fun (i : Nat) => l.length - i) (0) [] rfl (fun _ => by first | exact Nat.zero_le _ | (dsimp only; omega)) ?_ (by ((try (conv => whnf)); exact wkx_Tl)) ?_)
    · exact ⟨Nat.zero_le _, fun j hj => by omega⟩
    rintro i ⟨hi, h0⟩
    by_cases hil : i < l.length
    · obtain ⟨t, he, ht⟩ := eq_rl (nth dR l i) (nth dR m i)
      have hil2 : i < m.length := by omega
      have hn1 := rl_len (nth dR l i)
      have hn2 := rl_len (nth dR m i)
      have hne := maps_ne (f := rlA) dR hil hil2
      generalize g1 : rlA (nth dR l i) = r1 at *
      generalize g2 : rlA (nth dR m i) = r2 at *
      cases t with
      | true =>
        have e := ht.1 rfl
        (refine wtl ?_; repeat' (first | with_reducible refine And.intro ?_ ?_ | intro hsp))
        all_goals exact next_x (i + 1) [] ⟨by omega, fun j hj => if e2 : j = i then by rw [e2, g1, g2]; exact e else h0 j (by omega)⟩ (by first | omega | (dsimp only; omega)) rfl (by exact wkx_Tl)
      | false =>
        have hbf : b = false := by
          cases b with
          | false => rfl
          | true => exact absurd (hb.1 rfl) (hne fun e => by have := ht.2 e; cases this)
        rw [hbf]
        (refine wtl ?_; repeat' (first | with_reducible refine And.intro ?_ ?_ | intro hsp))
        all_goals exact end_bool rfl
    · have hbt : b = true := hb.2 (maps_eq dR hl fun j hj => h0 j (by omega))
      rw [hbt]
      (refine wtl ?_; repeat' (first | with_reducible refine And.intro ?_ ?_ | intro hsp))
      all_goals exact end_bool rfl
  · have hbf : b = false := by
      cases b with
      | false => rfl
      | true => exact absurd (maps_len (hb.1 rfl)) hl
    rw [hbf]
    (refine wtl ?_; repeat' (first | with_reducible refine And.intro ?_ ?_ | intro hsp))
    all_goals first | exact end_bool rfl | (exfalso; omega)
theorem r_sameSt (hlen : l.length ≤ 100000) {b : Bool} (hb : b = true ↔ sameSt l C H m C' H') : PureS 31 [.agg (stA l C H), .agg (stA m C' H')] (.bool b) := by
  refine PureS.mk (pure_x hmix b31 plainG ⟨plain_st, plain_st, trivial⟩ plain_bool rfl ?_)
  unfold c31
  obtain ⟨t1, e1, h1⟩ := eq_7 C C'
  obtain ⟨t2, e2, h2⟩ := eq_7 H H'
  unfold arr7 at e1 e2
  obtain ⟨t0, h0⟩ : ∃ t0 : Bool, t0 = true ↔ l.map rlA = m.map rlA := by
    by_cases h : l.map rlA = m.map rlA
    · exact ⟨true, fun _ => h, fun _ => rfl⟩
    · exact ⟨false, fun e => (by cases e), fun e => absurd e h⟩
  have z := r_samePlan hlen h0
  have hb2 : b = (t0 && t1 && t2) := by
    rw [Bool.eq_iff_iff, hb, Bool.and_eq_true, Bool.and_eq_true, h0, h1, h2]; exact ⟨fun h => ⟨⟨h.1, h.2.1⟩, h.2.2⟩, fun h => ⟨h.1.1, h.1.2, h.2⟩⟩
  rw [hb2]
  cases t0 with
  | false =>
    (refine wtl ?_; repeat' (first | with_reducible refine And.intro ?_ ?_ | intro hsp))
    all_goals exact end_bool rfl
  | true =>
    cases t1 with
    | false =>
      (refine wtl ?_; repeat' (first | with_reducible refine And.intro ?_ ?_ | intro hsp))
      all_goals exact end_bool rfl
    | true =>
      cases t2 with
      | false =>
        (refine wtl ?_; repeat' (first | with_reducible refine And.intro ?_ ?_ | intro hsp))
        all_goals exact end_bool rfl
      | true =>
        (refine wtl ?_; repeat' (first | with_reducible refine And.intro ?_ ?_ | intro hsp))
        all_goals exact end_bool rfl
set_option maxHeartbeats 800000 in
theorem r_same {x y : Vs} (hR : x.R.length ≤ 100000) (hU : x.U.length ≤ 100000) (hD : x.D.length ≤ 100000) (hlen : x.l.length ≤ 100000) {b : Bool} (hb : b = true ↔ sameV x y) : PureS 14 [.agg (vsA x), .agg (vsA y)] (.bool b) := by
  refine PureS.mk (pure_x hmix b14 plainG ⟨plain_vs, plain_vs, trivial⟩ plain_bool rfl ?_)
  unfold c14
  obtain ⟨R, U, D, l, C, H⟩ := x
  obtain ⟨R', U', D', l', C', H'⟩ := y
  dsimp only at hR hU hD hlen
  simp only [vsA, stA]
  obtain ⟨ts, hts⟩ : ∃ ts : Bool, ts = true ↔ sameSt l C H l' C' H' := by
    by_cases h : sameSt l C H l' C' H'
    · exact ⟨true, fun _ => h, fun _ => rfl⟩
    · exact ⟨false, fun e => (by cases e), fun e => absurd e h⟩
  have z := r_sameSt hlen hts
  unfold sameV at hb
  dsimp only at hb
  have no : ¬ ((R.map rnA = R'.map rnA ∧ U.map inA = U'.map inA ∧ D.map dtA = D'.map dtA) ∧ sameSt l C H l' C' H') → b = false := fun h => by
    cases b with
    | false => rfl
    | true => exact absurd (hb.1 rfl) h
  by_cases h1 : R.length = R'.length
  case neg =>
    rw [no fun h => h1 (maps_len h.1.1)]
    (refine wtl ?_; repeat' (first | with_reducible refine And.intro ?_ ?_ | intro hsp))
    all_goals first | exact end_bool rfl | (exfalso; omega)
  by_cases h2 : U.length = U'.length
  case neg =>
    rw [no fun h => h2 (maps_len h.1.2.1)]
    (refine wtl ?_; repeat' (first | with_reducible refine And.intro ?_ ?_ | intro hsp))
    all_goals first | exact end_bool rfl | (exfalso; omega)
  by_cases h3 : D.length = D'.length
  case neg =>
    rw [no fun h => h3 (maps_len h.1.2.2)]
    (refine wtl ?_; repeat' (first | with_reducible refine And.intro ?_ ?_ | intro hsp))
    all_goals first | exact end_bool rfl | (exfalso; omega)
  cases ts with
  | false =>
    rw [no fun h => by have := hts.2 h.2; cases this]
    (refine wtl ?_; repeat' (first | with_reducible refine And.intro ?_ ?_ | intro hsp))
    all_goals first | exact end_bool rfl | (exfalso; omega)
  | true =>
  (refine wtl ?_; repeat' (first | with_reducible refine And.intro ?_ ?_ | intro hsp))
  all_goals first | (exfalso; omega) | skip
  (refine loop_x [2, 3] (fun (i : Nat) => [(5, .int .i64 (i : Nat))]) (fun (i : Nat) => ⟨[(0, .cells [.isl (R.map rnA), .isl (U.map inA), .isl (D.map dtA), .isl (l.map rlA), .int .i64 (C 0), .int .i64 (C 1), .int .i64 (C 2), .int .i64 (C 3), .int .i64 (C 4), .int .i64 (C 5), .int .i64 (C 6), .int .i64 (H 0), .int .i64 (H 1), .int .i64 (H 2), .int .i64 (H 3), .int .i64 (H 4), .int .i64 (H 5), .int .i64 (H 6)]), (1, .cells [.isl (R'.map rnA), .isl (U'.map inA), .isl (D'.map dtA), .isl (l'.map rlA), .int .i64 (C' 0), .int .i64 (C' 1), .int .i64 (C' 2), .int .i64 (C' 3), .int .i64 (C' 4), .int .i64 (C' 5), .int .i64 (C' 6), .int .i64 (H' 0), .int .i64 (H' 1), .int .i64 (H' 2), .int .i64 (H' 3), .int .i64 (H' 4), .int .i64 (H' 5), .int .i64 (H' 6)])], 2⟩) (fun (i : Nat) => i ≤ R.length ∧ ∀ j, j < i → rnA (nth dRn R j) = rnA (nth dRn R' j)) (fun (i : Nat) => R.length - i) (0) [] rfl (fun _ => by first | exact Nat.zero_le _ | (dsimp only; omega)) ?_ (by ((try (conv => whnf)); exact wkx_Tl)) ?_)
  · exact ⟨Nat.zero_le _, fun j hj => by omega⟩
  rintro i ⟨hi, h0⟩
  by_cases hil : i < R.length
  · obtain ⟨t, he, ht⟩ := eq_rn (nth dRn R i) (nth dRn R' i)
    have hil2 : i < R'.length := by omega
    have hn1 := rn_len (nth dRn R i)
    have hn2 := rn_len (nth dRn R' i)
    have hne := maps_ne (f := rnA) dRn hil hil2
    generalize g1 : rnA (nth dRn R i) = r1 at *
    generalize g2 : rnA (nth dRn R' i) = r2 at *
    cases t with
    | true =>
      have e := ht.1 rfl
      (refine wtl ?_; repeat' (first | with_reducible refine And.intro ?_ ?_ | intro hsp))
      all_goals exact next_x (i + 1) [] ⟨by omega, fun j hj => if e2 : j = i then by rw [e2, g1, g2]; exact e else h0 j (by omega)⟩ (by first | omega | (dsimp only; omega)) rfl (by exact wkx_Tl)
    | false =>
      rw [no fun h => hne (fun e => by have := ht.2 e; cases this) h.1.1]
      (refine wtl ?_; repeat' (first | with_reducible refine And.intro ?_ ?_ | intro hsp))
      all_goals exact end_bool rfl
  have eR := maps_eq (f := rnA) dRn h1 fun j hj => h0 j (by omega)
  (refine wtl ?_; repeat' (first | with_reducible refine And.intro ?_ ?_ | intro hsp))
  (refine loop_x [2, 3] (fun (i : Nat) => [(6, .int .i64 (i : Nat))]) (fun (i : Nat) => ⟨[(0, .cells [.isl (R.map rnA), .isl (U.map inA), .isl (D.map dtA), .isl (l.map rlA), .int .i64 (C 0), .int .i64 (C 1), .int .i64 (C 2), .int .i64 (C 3), .int .i64 (C 4), .int .i64 (C 5), .int .i64 (C 6), .int .i64 (H 0), .int .i64 (H 1), .int .i64 (H 2), .int .i64 (H 3), .int .i64 (H 4), .int .i64 (H 5), .int .i64 (H 6)]), (1, .cells [.isl (R'.map rnA), .isl (U'.map inA), .isl (D'.map dtA), .isl (l'.map rlA), .int .i64 (C' 0), .int .i64 (C' 1), .int .i64 (C' 2), .int .i64 (C' 3), .int .i64 (C' 4), .int .i64 (C' 5), .int .i64 (C' 6), .int .i64 (H' 0), .int .i64 (H' 1), .int .i64 (H' 2), .int .i64 (H' 3), .int .i64 (H' 4), .int .i64 (H' 5), .int .i64 (H' 6)])], 2⟩) (fun (i : Nat) => i ≤ U.length ∧ ∀ j, j < i → inA (nth 0 U j) = inA (nth 0 U' j)) (fun (i : Nat) => U.length - i) (0) [] rfl (fun _ => by first | exact Nat.zero_le _ | (dsimp only; omega)) ?_ (by ((try (conv => whnf)); exact wkx_Tl)) ?_)
  · exact ⟨Nat.zero_le _, fun j hj => by omega⟩
  rintro i ⟨hi, h0⟩
  by_cases hil : i < U.length
  · have hil2 : i < U'.length := by omega
    have hne := maps_ne (f := inA) (0 : Int) hil hil2
    have hn1 : inA (nth 0 U i) = [.int .i64 (nth 0 U i)] := rfl
    have hn2 : inA (nth 0 U' i) = [.int .i64 (nth 0 U' i)] := rfl
    by_cases e : nth 0 U i = nth 0 U' i
    · (refine wtl ?_; repeat' (first | with_reducible refine And.intro ?_ ?_ | intro hsp))
      all_goals first | (exfalso; exact absurd e (by assumption)) | skip
      all_goals exact next_x (i + 1) [] ⟨by omega, fun j hj => if e2 : j = i then by rw [e2, e] else h0 j (by omega)⟩ (by first | omega | (dsimp only; omega)) rfl (by exact wkx_Tl)
    · rw [no fun h => hne (fun e2 => by rw [hn1, hn2] at e2; injection e2 with e3; injection e3 with _ e4; exact e e4) h.1.2.1]
      (refine wtl ?_; repeat' (first | with_reducible refine And.intro ?_ ?_ | intro hsp))
      all_goals first | exact end_bool rfl | (exfalso; exact e (by assumption))
  have eU := maps_eq (f := inA) (0 : Int) h2 fun j hj => h0 j (by omega)
  (refine wtl ?_; repeat' (first | with_reducible refine And.intro ?_ ?_ | intro hsp))
  (refine loop_x [2, 3] (fun (i : Nat) => [(7, .int .i64 (i : Nat))]) (fun (i : Nat) => ⟨[(0, .cells [.isl (R.map rnA), .isl (U.map inA), .isl (D.map dtA), .isl (l.map rlA), .int .i64 (C 0), .int .i64 (C 1), .int .i64 (C 2), .int .i64 (C 3), .int .i64 (C 4), .int .i64 (C 5), .int .i64 (C 6), .int .i64 (H 0), .int .i64 (H 1), .int .i64 (H 2), .int .i64 (H 3), .int .i64 (H 4), .int .i64 (H 5), .int .i64 (H 6)]), (1, .cells [.isl (R'.map rnA), .isl (U'.map inA), .isl (D'.map dtA), .isl (l'.map rlA), .int .i64 (C' 0), .int .i64 (C' 1), .int .i64 (C' 2), .int .i64 (C' 3), .int .i64 (C' 4), .int .i64 (C' 5), .int .i64 (C' 6), .int .i64 (H' 0), .int .i64 (H' 1), .int .i64 (H' 2), .int .i64 (H' 3), .int .i64 (H' 4), .int .i64 (H' 5), .int .i64 (H' 6)])], 2⟩) (fun (i : Nat) => i ≤ D.length ∧ ∀ j, j < i → dtA (nth dDt D j) = dtA (nth dDt D' j)) (fun (i : Nat) => D.length - i) (0) [] rfl (fun _ => by first | exact Nat.zero_le _ | (dsimp only; omega)) ?_ (by ((try (conv => whnf)); exact wkx_Tl)) ?_)
  · exact ⟨Nat.zero_le _, fun j hj => by omega⟩
  rintro i ⟨hi, h0⟩
  by_cases hil : i < D.length
  · obtain ⟨t, he, ht⟩ := eq_dt (nth dDt D i) (nth dDt D' i)
    have hil2 : i < D'.length := by omega
    have hn1 := dt_len (nth dDt D i)
    have hn2 := dt_len (nth dDt D' i)
    have hne := maps_ne (f := dtA) dDt hil hil2
    generalize g1 : dtA (nth dDt D i) = r1 at *
    generalize g2 : dtA (nth dDt D' i) = r2 at *
    cases t with
    | true =>
      have e := ht.1 rfl
      (refine wtl ?_; repeat' (first | with_reducible refine And.intro ?_ ?_ | intro hsp))
      all_goals exact next_x (i + 1) [] ⟨by omega, fun j hj => if e2 : j = i then by rw [e2, g1, g2]; exact e else h0 j (by omega)⟩ (by first | omega | (dsimp only; omega)) rfl (by exact wkx_Tl)
    | false =>
      rw [no fun h => hne (fun e => by have := ht.2 e; cases this) h.1.2.2]
      (refine wtl ?_; repeat' (first | with_reducible refine And.intro ?_ ?_ | intro hsp))
      all_goals exact end_bool rfl
  have eD := maps_eq (f := dtA) dDt h3 fun j hj => h0 j (by omega)
  rw [hb.2 ⟨⟨eR, eU, eD⟩, hts.1 rfl⟩]
  (refine wtl ?_; repeat' (first | with_reducible refine And.intro ?_ ?_ | intro hsp))
  all_goals exact end_bool rfl
end
end Go.Proofs.Ytjlbfijjfjogiaa
