/-
 The document's answer: Fork.
-/
import Derived.Test.YtccbhbdbmmkcdaaGreatBh
import Derived.Test.YtccbhbdbmmkcdaaGreatYo
set_option linter.unusedSimpArgs false
set_option linter.unusedVariables false
namespace Go.Pol
open Go.Am
def wnV (a : Nat) (v : Vw) : Vw := (v.1, v.2.1, v.2.2.1, v.2.2.2 && !decide (v.1 = a))
def putL (b : Nat) (M : List Vw) : List Vw → List Vw
 | [] => M
 | u :: O => putL b (insV (cpV b u) M) O
theorem putL_0 (b : Nat) (M : List Vw) : putL b M [] = M := rfl
theorem putL_s (b : Nat) (M : List Vw) : ∀ (O : List Vw) (u : Vw), putL b M (O ++ [u]) = insV (cpV b u) (putL b M O) := by
 intro O
 induction O generalizing M with
 | nil => intro u; rfl
 | cons w O ih => intro u; exact ih (insV (cpV b w) M) u
theorem putL_len (b : Nat) (M : List Vw) : ∀ O : List Vw, (putL b M O).length = M.length + O.length := by
 intro O
 induction O generalizing M with
 | nil => rfl
 | cons w O ih => rw [show putL b M (w :: O) = putL b (insV (cpV b w) M) O from rfl, ih, len_ins, List.length_cons]; omega
theorem putL_mem (b : Nat) (M : List Vw) : ∀ (O : List Vw) (v : Vw), v ∈ putL b M O ↔ v ∈ M ∨ ∃ u, u ∈ O ∧ v = cpV b u := by
 intro O
 induction O generalizing M with
 | nil => intro v; exact ⟨.inl, fun h => h.elim id fun ⟨u, hu, _⟩ => by cases hu⟩
 | cons w O ih =>
  intro v
  rw [show putL b M (w :: O) = putL b (insV (cpV b w) M) O from rfl, ih, mem_ins]
  constructor
  ·rintro ((h | h) | ⟨u, h1, h2⟩)
   ·exact .inr ⟨w, List.mem_cons_self .., h⟩
   ·exact .inl h
   ·exact .inr ⟨u, List.mem_cons_of_mem _ h1, h2⟩
  ·rintro (h | ⟨u, h1, h2⟩)
   ·exact .inl (.inr h)
   ·rcases List.mem_cons.1 h1 with rfl | h1
    ·exact .inl (.inl h2)
    ·exact .inr ⟨u, h1, h2⟩
theorem putL_srt (b : Nat) : ∀ (O M : List Vw), srt M → (∀ u ∈ O, ∀ w ∈ M, ¬ atV (b, u.2.1) w) → (O.map (·.2.1)).Nodup → srt (putL b M O) := by
 intro O
 induction O with
 | nil => intro M h _ _; exact h
 | cons w O ih =>
  intro M h h2 h3
  rw [List.map_cons, List.nodup_cons] at h3
  refine ih _ (srt_ins h (h2 w (List.mem_cons_self ..))) (fun u hu x hx => ?_) h3.2
  rcases mem_ins.1 hx with rfl | hx
  ·intro ha; exact h3.1 (List.mem_map.2 ⟨u, hu, ha.2.symm⟩)
  ·exact h2 u (List.mem_cons_of_mem _ hu) x hx
theorem wnV_eq (a : Nat) (v : Vw) : (v.1 ≠ a → wnV a v = v) ∧ (v.1 = a → wnV a v = roV v) := by
 obtain ⟨v1, v2, v3, v4⟩ := v
 unfold wnV roV
 exact ⟨fun h => by have : decide (v1 = a) = false := decide_eq_false h; dsimp only; rw [this]; simp, fun h => by have : decide (v1 = a) = true := decide_eq_true h; dsimp only; rw [this]; simp⟩
theorem fork_same {L M : List Vw} {a b : Nat} (hL : srt L) (hM : srt M) (hb : ofA b L = []) (h : Frk L (ofA a L) b (ofA a L).length M) : M = putL b (L.map (wnV a)) (ofA a L) := by
 have hm : ∀ v, v ∈ M ↔ (v ∈ L ∧ v ∉ ofA a L) ∨ ∃ u, u ∈ ofA a L ∧ (v = roV u ∨ v = cpV b u) := fun v => by rw [h.mem, List.take_length]
 have hnb : ∀ v ∈ L, v.1 ≠ b := fun v hv e => by
  have : v ∈ ofA b L := mem_ofA.2 ⟨hv, e⟩
  rw [hb] at this; cases this
 have hO : srt (ofA a L) := hL.sublist List.filter_sublist
 have hOa : ∀ u ∈ ofA a L, u.1 = a := fun u hu => (mem_ofA.1 hu).2
 have hs1 : srt (L.map (wnV a)) := List.Pairwise.map _ (fun u v hb => by unfold bef wnV at *; exact hb) hL
 have hnd : ((ofA a L).map (·.2.1)).Nodup := by
  refine List.Pairwise.map _ (R := fun u v => bef u v ∧ u.1 = v.1) (fun u v huv => by obtain ⟨hb, he⟩ := huv; unfold bef at hb; show u.2.1 ≠ v.2.1; omega) ?_
  exact List.Pairwise.imp_of_mem (R := bef) (fun {u v} hu hv hb => ⟨hb, by rw [hOa u hu, hOa v hv]⟩) hO
 refine srt_ext hM (putL_srt b _ _ hs1 (fun u hu w hw => ?_) hnd) fun v => ?_
 ·obtain ⟨x, hx, rfl⟩ := List.mem_map.1 hw
  intro ha; exact hnb x hx ha.1
 ·rw [hm, putL_mem, List.mem_map]
  constructor
  ·rintro (⟨h1, h2⟩ | ⟨u, h1, h2 | h2⟩)
   ·exact .inl ⟨v, h1, (wnV_eq a v).1 fun e => h2 (mem_ofA.2 ⟨h1, e⟩)⟩
   ·exact .inl ⟨u, (mem_ofA.1 h1).1, by rw [(wnV_eq a u).2 (hOa u h1), h2]⟩
   ·exact .inr ⟨u, h1, h2⟩
  ·rintro (⟨u, h1, rfl⟩ | ⟨u, h1, h2⟩)
   ·by_cases hu : u.1 = a
    ·exact .inr ⟨u, mem_ofA.2 ⟨h1, hu⟩, .inl ((wnV_eq a u).2 hu)⟩
    ·rw [(wnV_eq a u).1 hu]; exact .inl ⟨h1, fun h2 => hu (mem_ofA.1 h2).2⟩
   ·exact .inr ⟨u, h1, .inr h2⟩
end Go.Pol
namespace Go.Proofs.YtccbhbdbmmkcdaaGreat.Sh
open Go Go.Am Go.Pol
theorem plx_Bi {p : Prop} (h : p := by ((first | assumption | exact plain_int | exact plain_bool | exact plain_undef | exact plain_nils | exact plain_nilp | exact plain_nilf | exact plain_str | with_reducible apply plain_int | with_reducible apply plain_bool | with_reducible apply plain_vwC | with_reducible apply plain_vwE | with_reducible apply plain_vs | with_reducible apply plain_vsA | with_reducible apply plain_t2 | with_reducible apply plain_ste | with_reducible apply plain_s3 | fail); first | done | fail)) : p := h
theorem prx_Bi {p : Prop} (h : p := by (((repeat' (first | exact plain_all0 | refine plain_all2 ?_ ?_ | exact plain_int | first | assumption | exact plain_int | exact plain_bool | exact plain_undef | exact plain_nils | exact plain_nilp | exact plain_nilf | exact plain_str | with_reducible apply plain_int | with_reducible apply plain_bool | with_reducible apply plain_vwC | with_reducible apply plain_vwE | with_reducible apply plain_vs | with_reducible apply plain_vsA | with_reducible apply plain_t2 | with_reducible apply plain_ste | with_reducible apply plain_s3))); first | done | fail)) : p := h
theorem ppx_Bi {p : Prop} (h : p := by ((first | with_reducible assumption | with_reducible apply vw_plain | with_reducible apply plain_flat vw_plain' | with_reducible apply plain_map (fun _ => plain_int) | with_reducible apply plain_map (fun _ => plain_bool) | exact prx_Bi | fail); first | done | fail)) : p := h
theorem wvx_Bi {p : Prop} (h : p := by ((first | exact wk_undef | exact wk_int (by first | rfl | omega | (dsimp only; omega)) | exact wk_bool rfl | exact wk_ptr rfl (by first | decide | simp | omega) | exact wk_sl rfl (by first | decide | simp | omega) (by first | rfl | omega | simp) (by first | omega | simp) (by first | omega | simp) | exact wk_frz5 hs rfl (by omega) not5 | exact wk_frz6 hs hnil rfl not5 | exact wk_own rfl (by first | decide | simp | omega) | exact wk_nil0 (by first | rfl | simp) | exact wk_slown rfl (by first | decide | omega | (simp; done)) (by first | omega | (simp; done)) (by first | rfl | omega | (simp; done) | (simp; omega)) | exact wk_plain hs plx_Bi | (with_reducible refine wk_fn ?_ ?_ <;> repeat' (first | with_reducible exact wkl_nil | with_reducible refine wkl_cons ?_ ?_ | exact wk_ptr rfl (by first | decide | simp | omega))) | (with_reducible refine wk_agg ?_; repeat' (first | with_reducible exact wkl_nil | with_reducible refine wkl_cons ?_ ?_ | exact wk_int (by first | rfl | omega | (dsimp only; omega)) | exact wk_bool rfl)) | exact wk_yld rfl (by first | decide | simp | omega) | fail); first | done | fail)) : p := h
theorem wkx_Bi {p : Prop} (h : p := by (refine weak_s (by exact oneOf_of rfl) (by exact subH_of rfl) (by intro hs; (repeat' ((try (conv => whnf)); first | with_reducible exact True.intro | with_reducible refine And.intro ?_ ?_ | (with_reducible refine WkX.mk ?_; first | exact wvx_Bi | fail)))) (by intro hs; (try dsimp only); (repeat' (first | with_reducible exact wko_nil | refine wko_plain hs (by first | decide | omega | simp) rfl (by first | rfl) (by (first | exact ppx_Bi | fail | ((refine plain_app ?_ ?_) <;> (first | exact ppx_Bi | fail)))) ?_ | refine wko_cells (by first | decide | omega | simp) rfl (by repeat' (first | with_reducible exact wkl_nil | with_reducible refine wkl_cons ?_ ?_ | (first | exact wvx_Bi | fail))) ?_ | refine wko_loop (by first | decide | omega | simp) rfl (by ((try subst hF); (try subst hF2); exact wkl_sd (wkf_sget (by (repeat' ((try (conv => whnf)); first | with_reducible exact True.intro | with_reducible refine And.intro ?_ ?_ | (with_reducible refine WkX.mk ?_; first | exact wvx_Bi | fail))))))) ?_ | exact wko_nil))))) : p := h
theorem wx_Bin {p q : Prop} (hq : q) (h : HidP q → p := by (intro hQz; ((repeat' ((try (conv => whnf)); first | (with_reducible first | refine run_cons ?_ | refine runq_cons ?_ | refine code_seq ?_ | refine code_reg ?_ | refine code_cond ?_ | refine run_nil ?_ | refine runq_nil ?_ | refine rund_op rfl ?_ | refine rund_nil ?_ | refine code_block ?_ | refine code_skip ?_ | refine code_exit ?_ | refine code_ret ?_ | refine code_range ?_ | refine rund_fast (by decide +kernel) ?_ | refine rund_slow (by decide +kernel) ?_ | refine br_tt ?_ | refine br_ff ?_ | refine br_n ?_ | refine br_and ?_ | refine br_or ?_ | refine br_t (by assumption) ?_ | refine br_f (by assumption) ?_ | refine eq_i64 (by omega) ?_ | refine el_tn ?_) | ((with_reducible refine br_dt ?_ ?_); focus omega) | ((with_reducible refine br_df ?_ ?_); focus omega) | ((with_reducible apply br_dq hQz) <;> (try intro hsp hQz)) | ((with_reducible refine ck_x ?_ ?_); focus (first | omega | rfl | assumption | decide | (simp only [List.length_map, List.length_cons, List.length_nil]; omega))) | (with_reducible first | refine eq_tn ?_ | refine eq_tn1 ?_ | refine eq_tn2 ?_ | refine eq_m1 ?_ | refine eq_m2 ?_ | refine eq_zm ?_ | refine eq_z ?_ | refine len_map ?_ | refine len_sl ?_ | refine len_nils ?_ | refine len_own' ?_ | refine len_isl ?_ | refine eq_u8 (by omega) ?_ | refine eq_u16 (by omega) ?_) | refine nthK_of (hC) ?_ | refine set1K_of (by first | omega | fail) hset ?_ | refine el_vw (by first | assumption | omega) (by with_reducible assumption) ?_ | refine apps_some (appV_sl (src_isl L rfl) rfl (by first | (simp [flat_len vw_len]; done) | (simp [flat_len vw_len]; omega) | fail) (by first | decide | omega) ⟨by first | decide | omega, by first | decide | omega⟩) ?_ | refine app_m (src_isl L rfl) rfl (by first | (simp [flat_len vw_len]; done) | (simp [flat_len vw_len]; omega) | fail) (by first | decide | omega) ⟨by first | decide | omega, by first | decide | omega⟩ ?_ | refine apps_0 hsrc rfl rfl ?_ | (with_reducible first | refine eq_rfl ?_ | refine ChkX.mk (by kernel_rfl) ?_ | refine code_d (by decide +kernel) ?_ | refine end_go rfl ?_) | refine dcx_pureS (by assumption) ?_ | refine qcx_pureS (by assumption) ?_ | refine cx_pureS (by assumption) ?_ | (refine cx_in hmix b69 rfl ?_; unfold c69) | (refine cx_in hmix b67 rfl ?_; unfold c67) | (refine cx_in hmix b66 rfl ?_; unfold c66) | refine len_map ?_ | refine len_isl ?_ | refine el_of rfl rfl ?_ | refine del_own ?_ | refine del_own' rfl ?_ | refine as_go rfl ?_ | refine rd_go rfl ?_ | refine rg_end rfl ?_ | refine flat_ownX ?_ | refine EqLX.mk ?_ | ((with_reducible apply br_bq hQz) <;> (try intro hsp hQz)) | exact hQz.out)) <;> (try (conv => whnf))))) : p := h ⟨hq⟩
theorem wx_Bi {p q : Prop} (hq : q) (h : HidP q → p := by (intro hQz; ((repeat' ((try (conv => whnf)); first | (with_reducible first | refine run_cons ?_ | refine runq_cons ?_ | refine code_seq ?_ | refine code_reg ?_ | refine code_cond ?_ | refine run_nil ?_ | refine runq_nil ?_ | refine rund_op rfl ?_ | refine rund_nil ?_ | refine code_block ?_ | refine code_skip ?_ | refine code_exit ?_ | refine code_ret ?_ | refine code_range ?_ | refine rund_fast (by decide +kernel) ?_ | refine rund_slow (by decide +kernel) ?_ | refine br_tt ?_ | refine br_ff ?_ | refine br_n ?_ | refine br_and ?_ | refine br_or ?_ | refine br_t (by assumption) ?_ | refine br_f (by assumption) ?_ | refine eq_i64 (by omega) ?_ | refine el_tn ?_) | ((with_reducible refine br_dt ?_ ?_); focus omega) | ((with_reducible refine br_df ?_ ?_); focus omega) | ((with_reducible apply br_dq hQz) <;> (try intro hsp hQz)) | ((with_reducible refine ck_x ?_ ?_); focus (first | omega | rfl | assumption | decide | (simp only [List.length_map, List.length_cons, List.length_nil]; omega))) | (with_reducible first | refine eq_tn ?_ | refine eq_tn1 ?_ | refine eq_tn2 ?_ | refine eq_m1 ?_ | refine eq_m2 ?_ | refine eq_zm ?_ | refine eq_z ?_ | refine len_map ?_ | refine len_sl ?_ | refine len_nils ?_ | refine len_own' ?_ | refine len_isl ?_ | refine eq_u8 (by omega) ?_ | refine eq_u16 (by omega) ?_) | (with_reducible first | refine eq_rfl ?_ | refine ChkX.mk (by kernel_rfl) ?_ | refine code_q rfl ?_ | refine code_d (by decide +kernel) ?_ | refine end_go rfl ?_) | (refine cx_in hmix b69 rfl ?_; unfold c69) | (refine cx_in hmix b67 rfl ?_; unfold c67) | refine dcx_pureS (by assumption) ?_ | refine qcx_pureS (by assumption) ?_ | refine cx_pureS (by assumption) ?_ | refine len_map ?_ | refine len_isl ?_ | refine el_of rfl rfl ?_ | refine del_own ?_ | refine del_own' rfl ?_ | refine as_go rfl ?_ | refine rd_go rfl ?_ | refine rg_end rfl ?_ | refine flat_ownX ?_ | refine EqLX.mk ?_ | ((with_reducible apply br_bq hQz) <;> (try intro hsp hQz)) | exact hQz.out)) <;> (try (conv => whnf))))) : p := h ⟨hq⟩
theorem plain_s3 {L : List Vw} {n e : Int} : Plain (.tup [.agg [.isl (L.map vwC)], .int .i64 n, .int .i64 e]) := plain_tup fun x hx => by
 simp only [List.mem_cons, List.not_mem_nil, or_false] at hx
 rcases hx with rfl | rfl | rfl
 ·exact plain_vsA
 ·exact plain_int
 ·exact plain_int
theorem flat_get (A B : List Vw) (v : Vw) (j : Nat) (x : AV) (h : (vwC v)[j]? = some x) : (flat vwC (A ++ v :: B))[A.length * 4 + j]? = some x := by
 have e : flat vwC (A ++ v :: B) = flat vwC A ++ (vwC v ++ flat vwC B) := by simp [flat]
 have hj : j < (vwC v).length := (List.getElem?_eq_some_iff.1 h).1
 rw [e, List.getElem?_append_right (by rw [flat_len vw_len]; omega), flat_len vw_len, Nat.add_sub_cancel_left, List.getElem?_append_left hj, h]
theorem not5 {x y : AObj} : ∀ j o, lk (Hp.l ⟨[(1, x), (6, y)], 7⟩) j = some o → rn [] j ≠ 5 := fun j o hj => by
 show j ≠ 5
 simp only [lk] at hj
 repeat' split at hj
 all_goals first | omega | cases hj
theorem wk_frz5 {σ : Nat → Nat} {h h' : Hp} {n : Nat} {L : List Vw} (hs : SubH σ h h') (hi : lk h.l 5 = some (.cells (flat vwC L))) (hn : n = L.length) (hd : ∀ j o, lk h'.l j = some o → σ j ≠ 5) : WkV Tryz.prog σ h h' (.sl 5 0 n n 4) (.isl (L.map vwC)) := by
 subst hn
 refine wk_frz hi hd hs (by simp) (fun e he => ?_) ?_ fun e he x hx => ?_
 ·obtain ⟨s, _, rfl⟩ := List.mem_map.1 he; rfl
 ·rw [List.drop_zero, List.take_of_length_le (by rw [flat_len vw_len]; exact Nat.le_refl _)]; rfl
 ·obtain ⟨s, _, rfl⟩ := List.mem_map.1 he; exact vw_plain x hx
theorem wk_frz6 {σ : Nat → Nat} {h h' : Hp} {L : List Vw} (hs : SubH σ h h') (hn : L = []) (hi : lk h.l 5 = some (.cells (flat vwC []))) (hd : ∀ j o, lk h'.l j = some o → σ j ≠ 5) : WkV Tryz.prog σ h h' (.sl 5 0 0 0 4) (.isl (L.map vwC)) := by
 subst hn; exact wk_frz5 hs hi rfl hd
section
variable {L A B : List Vw} {v : Vw}
theorem q_Fork_no (a b : Int) (hn : ¬ (inR 64 a ∧ inR 64 b)) : PureS 32 [.agg [.isl (L.map vwC)], .int .i64 a, .int .i64 b] (.tup [.agg [.isl (L.map vwC)], .int .i64 0, .int .i64 7]) := by
 refine PureS.mk (pure_x hmix b32 plainG ⟨plain_vsA, plain_int, plain_int, trivial⟩ plain_s3 rfl ?_)
 unfold c32
 unfold inR at hn
 (refine wx_Bi ?_; repeat' (first | with_reducible refine And.intro ?_ ?_ | intro hsp))
 all_goals first | exact end_plain rfl plain_s3 | (exfalso; omega)
theorem q_Fork_bad {a b : Nat} {e : Int} (ha : a < 64) (hb : b < 64) (hl : L.length ≤ 2000) (he : (e = 2 ∧ a = b) ∨ (e = 8 ∧ a ≠ b ∧ (ofA b L).length ≠ 0) ∨ (e = 5 ∧ a ≠ b ∧ (ofA b L).length = 0 ∧ 2000 < L.length + (ofA a L).length)) : PureS 32 [.agg [.isl (L.map vwC)], .int .i64 (a : Nat), .int .i64 (b : Nat)] (.tup [.agg [.isl (L.map vwC)], .int .i64 0, .int .i64 e]) := by
 refine PureS.mk (pure_x hmix b32 plainG ⟨plain_vsA, plain_int, plain_int, trivial⟩ plain_s3 rfl ?_)
 unfold c32
 have q1 := q_of (L := L) (a : Int) (by omega)
 have q2 := q_of (L := L) (b : Int) (by omega)
 rw [ofI_nat] at q1 q2
 have l1 : ((ofA a L).map vwC).length = (ofA a L).length := List.length_map _
 have l2 : ((ofA b L).map vwC).length = (ofA b L).length := List.length_map _
 have l3 : (ofA a L).length ≤ L.length := List.length_filter_le ..
 rcases he with ⟨rfl, h1⟩ | ⟨rfl, h1, h2⟩ | ⟨rfl, h1, h2, h3⟩
 all_goals (refine wx_Bi ?_; repeat' (first | with_reducible refine And.intro ?_ ?_ | intro hsp))
 all_goals first | exact end_plain rfl plain_s3 | (exfalso; omega)
set_option maxHeartbeats 1600000 in
theorem q_Fork {a b : Nat} (hab : a ≠ b) (ha : a < 64) (hb : b < 64) (hnb : ofA b L = []) (hlen : L.length + (ofA a L).length ≤ 2000) (hL : Go.Pol.srt L) (h0 : 0 < L.length) : PureS 32 [.agg [.isl (L.map vwC)], .int .i64 (a : Nat), .int .i64 (b : Nat)] (.tup [.agg [.isl ((putL b (L.map (wnV a)) (ofA a L)).map vwC)], .int .i64 ((ofA a L).length : Nat), .int .i64 0]) := by
 refine PureS.mk (pure_x hmix b32 plainG ⟨plain_vsA, plain_int, plain_int, trivial⟩ plain_s3 rfl ?_)
 unfold c32
 have q1 := q_of (L := L) (a : Int) (by omega)
 have q2 := q_of (L := L) (b : Int) (by omega)
 rw [ofI_nat] at q1 q2
 rw [hnb] at q2
 have l1 : ((ofA a L).map vwC).length = (ofA a L).length := List.length_map _
 have l3 : (ofA a L).length ≤ L.length := List.length_filter_le ..
 (refine wx_Bin ?_; repeat' (first | with_reducible refine And.intro ?_ ?_ | intro hsp))
 ·exfalso; simp at hsp
 clear hsp
 (refine loop_x [1, 2, 6, 9, 10] (fun (i : Nat) => [(11, .int .i64 (i : Nat))]) (fun (i : Nat) => ⟨[(1, .cells [.nils]), (5, .cells (flat vwC ((L.take i).map (wnV a) ++ L.drop i))), (6, .cells [.sl 5 0 (0 + L.length) (0 + L.length) 4])], 7⟩) (fun (i : Nat) => i ≤ L.length) (fun (i : Nat) => L.length - i) (0) [] rfl (fun _ => by first | exact Nat.zero_le _ | (dsimp only; omega)) ?_ (by ((try (conv => whnf)); (rw [List.take_zero, List.map_nil, List.drop_zero, List.nil_append]); exact wkx_Bi)) ?_)
 ·exact Nat.zero_le _
 intro i hi
 by_cases hil : i < L.length
 ·have hdr : L.drop i = nth dV L i :: L.drop (i + 1) := by rw [nth_get hil, List.drop_eq_getElem_cons hil]
  have hAl : ((L.take i).map (wnV a)).length = i := by rw [List.length_map, List.length_take]; omega
  have hnx : (L.take (i + 1)).map (wnV a) ++ L.drop (i + 1) = (L.take i).map (wnV a) ++ wnV a (nth dV L i) :: L.drop (i + 1) := by rw [take_nth (d := dV) hil, List.map_append, List.append_assoc]; rfl
  have hC := flat_get ((L.take i).map (wnV a)) (L.drop (i + 1)) (nth dV L i) 0 (.int .i64 ((nth dV L i).1 : Nat)) rfl
  have hset := flat_mid ((L.take i).map (wnV a)) (L.drop (i + 1)) (nth dV L i) (roV (nth dV L i)) 3 (.bool false) rfl (by decide)
  have hlen4 : (flat vwC ((L.take i).map (wnV a) ++ L.drop i)).length = L.length * 4 := by rw [flat_len vw_len, List.length_append, hAl, List.length_drop]; congr 1; omega
  rw [List.nil_append, hAl] at hset
  rw [hAl, Nat.add_zero] at hC
  rw [← hdr] at hset hC
  have hwn := wnV_eq a (nth dV L i)
  generalize nth dV L i = u at *
  by_cases hu : u.1 = a
  ·rw [hwn.2 hu] at hnx
   rw [← hnx] at hset
   (refine wx_Bin ?_; repeat' (first | with_reducible refine And.intro ?_ ?_ | intro hsp))
   all_goals exact next_x (i + 1) [] (by (try dsimp only); omega) (by first | omega | (dsimp only; omega)) rfl (by exact wkx_Bi)
  ·rw [hwn.1 hu, ← hdr] at hnx
   (refine wx_Bin ?_; repeat' (first | with_reducible refine And.intro ?_ ?_ | intro hsp))
   all_goals exact next_x (i + 1) [] (by (try dsimp only); omega) (by first | omega | (dsimp only; omega)) rfl (by ((try dsimp only); rw [hnx]); exact wkx_Bi)
 ·obtain rfl : i = L.length := by omega
  rw [List.take_length, List.drop_length, List.append_nil]
  (refine wx_Bin ?_; repeat' (first | with_reducible refine And.intro ?_ ?_ | intro hsp))
  have hml : (L.map (wnV a)).length = L.length := List.length_map _
  (refine loop_x [2, 6, 9] (fun (k : Nat) => [(10, .ptr 6 0), (12, .int .i64 (k : Nat))]) (fun (k : Nat) => ⟨[(1, .cells [.nils]), (6, .cells [.isl ((putL b (L.map (wnV a)) ((ofA a L).take k)).map vwC)])], 7⟩) (fun (k : Nat) => k ≤ (ofA a L).length) (fun (k : Nat) => (ofA a L).length - k) (0) [] rfl (fun _ => by first | exact Nat.zero_le _ | (dsimp only; omega)) ?_ (by ((try (conv => whnf)); (rw [List.take_zero, putL_0]); exact wkx_Bi)) ?_)
  ·exact Nat.zero_le _
  intro k hk
  have hpl := putL_len b (L.map (wnV a)) ((ofA a L).take k)
  rw [hml, List.length_take] at hpl
  by_cases hkl : k < (ofA a L).length
  ·have htk : putL b (L.map (wnV a)) ((ofA a L).take (k + 1)) = insV (cpV b (nth dV (ofA a L) k)) (putL b (L.map (wnV a)) ((ofA a L).take k)) := by rw [take_nth (d := dV) hkl, putL_s]
   obtain ⟨X, Y, e1, e2, e3, e4⟩ := insV_split (cpV b (nth dV (ofA a L) k)) (putL b (L.map (wnV a)) ((ofA a L).take k))
   have hp := q_put e1 e3 e4 (by omega)
   rw [← e2, ← htk] at hp
   clear e1 e2 e3 e4 htk
   generalize hu : nth dV (ofA a L) k = u at *
   obtain ⟨ua, uk, uf, uw⟩ := u
   have hp' : PureS 71 [.agg [.isl ((putL b (L.map (wnV a)) ((ofA a L).take k)).map vwC)], .agg [.int .i64 (b : Nat), .int .i64 (uk : Nat), .int .i64 (uf : Nat), .bool false]] (.agg [.isl ((putL b (L.map (wnV a)) ((ofA a L).take (k + 1))).map vwC)]) := hp
   clear hp
   (refine wx_Bin ?_; repeat' (first | with_reducible refine And.intro ?_ ?_ | intro hsp))
   all_goals exact next_x (k + 1) [] (by (try dsimp only); omega) (by first | omega | (dsimp only; omega)) rfl (by exact wkx_Bi)
  ·rw [List.take_of_length_le (by omega)]
   (refine wx_Bin ?_; repeat' (first | with_reducible refine And.intro ?_ ?_ | intro hsp))
   all_goals exact end_plain rfl plain_s3
theorem apps_0 {l : List (Nat × AObj)} {nx sz bytes d n : Nat} {x : AV} {cs : List AV} {rd : List Nat} {k : AV → Up → Prop} (hs : srcV (lk l) sz x = some ([], 0, rd)) (hd : lk l d = some (.cells cs)) (hc : cs.length = n * sz) (hk : k (.sl d 0 n n sz) [(d, some (.cells cs))]) : AppSX l nx sz bytes (.sl d 0 n n sz) x k := by
 have e := appV_in (nx := nx) (bytes := bytes) (off := 0) (cp := n) (len := n) hs hd (Nat.le_refl _) (by rw [Nat.add_zero]; omega)
 rw [Nat.add_zero, show over cs (0 + n * sz) [] = cs from rfl] at e
 exact apps_some e hk
set_option maxHeartbeats 1600000 in
theorem q_Fork_nil {a b : Nat} (hab : a ≠ b) (ha : a < 64) (hb : b < 64) (h0 : L.length = 0) : PureS 32 [.agg [.isl (L.map vwC)], .int .i64 (a : Nat), .int .i64 (b : Nat)] (.tup [.agg [.isl (L.map vwC)], .int .i64 0, .int .i64 0]) := by
 have hnil : L = [] := List.eq_nil_of_length_eq_zero h0
 refine PureS.mk (pure_x hmix b32 plainG ⟨plain_vsA, plain_int, plain_int, trivial⟩ plain_s3 rfl ?_)
 unfold c32
 have q1 := q_of (L := L) (a : Int) (by omega)
 have q2 := q_of (L := L) (b : Int) (by omega)
 rw [show ofI (a : Int) L = [] by rw [hnil]; rfl] at q1
 rw [show ofI (b : Int) L = [] by rw [hnil]; rfl] at q2
 have hsrc : ∀ {at_ : At}, srcV at_ 4 (.isl (L.map vwC)) = some ([], 0, []) := fun {at_} => by rw [hnil]; exact src_isl [] rfl
 (refine wx_Bin ?_; repeat' (first | with_reducible refine And.intro ?_ ?_ | intro hsp))
 all_goals try (exfalso; simp at hsp; done)
 clear hsp
 (refine loop_x [2, 6, 9] (fun (i : Nat) => [(10, .ptr 6 0), (11, .int .i64 0)]) (fun (i : Nat) => ⟨[(1, .cells [.nils]), (5, .cells (flat vwC [])), (6, .cells [.sl 5 0 0 0 4])], 7⟩) (fun (i : Nat) => i = 0) (fun (i : Nat) => 0) (0) [(5, 4), (6, 5)] rfl (fun _ => by first | exact Nat.zero_le _ | (dsimp only; omega)) ?_ (by ((try (conv => whnf)); exact wkx_Bi)) ?_)
 ·rfl
 intro i hi
 (refine wx_Bin ?_; repeat' (first | with_reducible refine And.intro ?_ ?_ | intro hsp))
 (refine loop_x [6, 9] (fun (k : Nat) => [(10, .ptr 6 0), (12, .int .i64 0)]) (fun (k : Nat) => ⟨[(1, .cells [.nils]), (6, .cells [.isl (L.map vwC)])], 7⟩) (fun (k : Nat) => k = 0) (fun (k : Nat) => 0) (0) [] rfl (fun _ => by first | exact Nat.zero_le _ | (dsimp only; omega)) ?_ (by ((try (conv => whnf)); exact wkx_Bi)) ?_)
 ·rfl
 intro k hk
 (refine wx_Bin ?_; repeat' (first | with_reducible refine And.intro ?_ ?_ | intro hsp))
 all_goals first | exact end_plain rfl plain_s3 | (exfalso; simp at hsp; done)
end
end Go.Proofs.YtccbhbdbmmkcdaaGreat.Sh
