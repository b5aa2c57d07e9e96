/-
  Len, Same, and Load of a queue as calls.
-/
import Derived.Test.YtggkpagngnnjjaaQh
import Derived.Test.YtggkpagngnnjjaaPw
import Derived.Test.YtggkpagngnnjjaaAmWu
set_option linter.unusedSimpArgs false
set_option linter.unusedVariables false
namespace Go.Am
open Go
section
variable {P : Program} {G : Gl}
theorem cx_locE {f : Nat} {fs cs args args0 : List AV} {l0 l : List (Nat × AObj)} {nx : Nat} {K0 K : AV → Hp → Prop} (ns : List Nat) (hc : LocC P G f args0 l0 ns.length K0) (hGp : PlainG G) (hd : nodB ns = true) (hl0 : Given (enter ns) ⟨l, nx⟩ l0)
    (ha : RnL (enter ns) (fs ++ args ++ cs) args0) (hlt : ∀ n ∈ ns, n < nx) (hk : ∀ r h1, K0 r h1 → ∃ lr m r' l1, h1 = ⟨lr, m⟩ ∧ RnV (back ns nx) r r' ∧ RnS (back ns nx) lr l1 ∧ filtK ns l fun l2 => K r' ⟨l1 ++ l2, nx + (m - ns.length)⟩) : CallX P G (.fn f fs cs) args ⟨l, nx⟩ K := by
  refine ⟨fun c u vs hR hG hm hu hargs => ?_⟩
  refine callV_loc (h := ⟨l, nx⟩) (K := fun v h' => ∃ hx, Hq h' hx ∧ K v hx) ns hc hGp hd hl0 ha hlt ?_ c u vs hR hG hm hu hargs
  rintro x h1 hx
  obtain ⟨lr, m, r', l1, rfl, hr, hS, hk⟩ := hk x h1 hx
  refine ⟨r', l1, hr, hS, ⟨l1 ++ l.filter (fun q => !ns.contains q.1), nx + (m - ns.length)⟩, ⟨?_, rfl⟩, filtK_spec hk⟩
  show lk (l.filter (fun q => !ns.contains q.1) ++ l1) = lk (l1 ++ l.filter fun q => !ns.contains q.1)
  refine lk_app2 fun i o o' h1 h2 => ?_
  obtain ⟨q1, q2⟩ := lk_filter h1
  have hlt : i < nx := (hm.U i).1 (hR.used i o (by rw [hm.at_]; exact q2))
  obtain ⟨i', cs, ds, q3, _⟩ := hS.spec back_fun h2
  unfold back at q3
  split at q3
  · rename_i e; subst q3; exact q1 (List.mem_of_getElem? e)
  · omega
end
end Go.Am
namespace Go.Proofs.Ytggkpagngnnjjaa
open Go Go.Am Go.Pol
theorem wkx_Qi {p : Prop} (h : p := by (refine weak_s (by exact oneOf_of rfl) (by exact subH_of rfl) (by intro hs; (repeat' ((try (conv => whnf)); first | with_reducible exact True.intro | with_reducible refine And.intro ?_ ?_ | (with_reducible refine WkX.mk ?_; first | exact wk_undef | exact wk_int (by first | rfl | omega | (dsimp only; omega)) | exact wk_bool rfl | exact wk_ptr rfl (by first | decide | simp | omega) | exact wk_sl rfl (by first | decide | simp | omega) (by first | rfl | omega | simp) (by first | omega | simp) (by first | omega | simp) | exact wk_own rfl (by first | decide | simp | omega) | exact wk_nil0 (by first | rfl | simp) | exact wk_slown rfl (by first | decide | omega | (simp; done)) (by first | omega | (simp; done)) (by first | rfl | omega | (simp; done) | (simp; omega)) | exact wk_plain hs (by (first | assumption | exact plain_int | exact plain_bool | exact plain_undef | exact plain_nils | exact plain_nilp | exact plain_nilf | exact plain_str | with_reducible apply plain_pg | with_reducible apply plain_pgs | with_reducible apply plain_pgA | with_reducible apply plain_val | with_reducible apply plain_ints | with_reducible apply plain_none | with_reducible apply plain_stP | with_reducible apply plain_st4)) | (with_reducible refine wk_fn ?_ ?_ <;> repeat' (first | with_reducible exact wkl_nil | with_reducible refine wkl_cons ?_ ?_ | exact wk_ptr rfl (by first | decide | simp | omega))) | (with_reducible refine wk_agg ?_; repeat' (first | with_reducible exact wkl_nil | with_reducible refine wkl_cons ?_ ?_ | exact wk_int (by first | rfl | omega | (dsimp only; omega)) | exact wk_bool rfl)) | exact wk_yld rfl (by first | decide | simp | omega))))) (by intro hs; (try dsimp only); (repeat' (first | with_reducible exact wko_nil | refine wko_plain hs (by first | decide | omega | simp) rfl (by first | rfl) (by (first | with_reducible assumption | with_reducible apply plain_c4 | with_reducible apply plain_flat pgA_plain | with_reducible apply cells_plain | with_reducible apply ends_plain | with_reducible apply memI_plain _ _ | with_reducible apply pgA_plain _ | with_reducible apply qcells_plain | with_reducible apply qends_plain | with_reducible apply plain_map (fun _ => plain_int) | with_reducible apply plain_map (fun _ => plain_bool) | ((repeat' (first | exact plain_all0 | refine plain_all2 ?_ ?_ | exact plain_int | first | assumption | exact plain_int | exact plain_bool | exact plain_undef | exact plain_nils | exact plain_nilp | exact plain_nilf | exact plain_str | with_reducible apply plain_pg | with_reducible apply plain_pgs | with_reducible apply plain_pgA | with_reducible apply plain_val | with_reducible apply plain_ints | with_reducible apply plain_none | with_reducible apply plain_stP | with_reducible apply plain_st4)); done) | ((refine plain_app ?_ ?_) <;> (first | with_reducible assumption | with_reducible apply plain_c4 | with_reducible apply plain_flat pgA_plain | with_reducible apply cells_plain | with_reducible apply ends_plain | with_reducible apply memI_plain _ _ | with_reducible apply pgA_plain _ | with_reducible apply qcells_plain | with_reducible apply qends_plain | with_reducible apply plain_map (fun _ => plain_int) | with_reducible apply plain_map (fun _ => plain_bool) | ((repeat' (first | exact plain_all0 | refine plain_all2 ?_ ?_ | exact plain_int | first | assumption | exact plain_int | exact plain_bool | exact plain_undef | exact plain_nils | exact plain_nilp | exact plain_nilf | exact plain_str | with_reducible apply plain_pg | with_reducible apply plain_pgs | with_reducible apply plain_pgA | with_reducible apply plain_val | with_reducible apply plain_ints | with_reducible apply plain_none | with_reducible apply plain_stP | with_reducible apply plain_st4)); done))))) ?_ | refine wko_cells (by first | decide | omega | simp) rfl (by repeat' (first | with_reducible exact wkl_nil | with_reducible refine wkl_cons ?_ ?_ | (first | exact wk_undef | exact wk_int (by first | rfl | omega | (dsimp only; omega)) | exact wk_bool rfl | exact wk_ptr rfl (by first | decide | simp | omega) | exact wk_sl rfl (by first | decide | simp | omega) (by first | rfl | omega | simp) (by first | omega | simp) (by first | omega | simp) | exact wk_own rfl (by first | decide | simp | omega) | exact wk_nil0 (by first | rfl | simp) | exact wk_slown rfl (by first | decide | omega | (simp; done)) (by first | omega | (simp; done)) (by first | rfl | omega | (simp; done) | (simp; omega)) | exact wk_plain hs (by (first | assumption | exact plain_int | exact plain_bool | exact plain_undef | exact plain_nils | exact plain_nilp | exact plain_nilf | exact plain_str | with_reducible apply plain_pg | with_reducible apply plain_pgs | with_reducible apply plain_pgA | with_reducible apply plain_val | with_reducible apply plain_ints | with_reducible apply plain_none | with_reducible apply plain_stP | with_reducible apply plain_st4)) | (with_reducible refine wk_fn ?_ ?_ <;> repeat' (first | with_reducible exact wkl_nil | with_reducible refine wkl_cons ?_ ?_ | exact wk_ptr rfl (by first | decide | simp | omega))) | (with_reducible refine wk_agg ?_; repeat' (first | with_reducible exact wkl_nil | with_reducible refine wkl_cons ?_ ?_ | exact wk_int (by first | rfl | omega | (dsimp only; omega)) | exact wk_bool rfl)) | exact wk_yld rfl (by first | decide | simp | omega)))) ?_ | refine wko_loop (by first | decide | omega | simp) rfl (by ((try subst hF); (try subst hF2); exact wkl_sd (wkf_sget (by (repeat' ((try (conv => whnf)); first | with_reducible exact True.intro | with_reducible refine And.intro ?_ ?_ | (with_reducible refine WkX.mk ?_; first | exact wk_undef | exact wk_int (by first | rfl | omega | (dsimp only; omega)) | exact wk_bool rfl | exact wk_ptr rfl (by first | decide | simp | omega) | exact wk_sl rfl (by first | decide | simp | omega) (by first | rfl | omega | simp) (by first | omega | simp) (by first | omega | simp) | exact wk_own rfl (by first | decide | simp | omega) | exact wk_nil0 (by first | rfl | simp) | exact wk_slown rfl (by first | decide | omega | (simp; done)) (by first | omega | (simp; done)) (by first | rfl | omega | (simp; done) | (simp; omega)) | exact wk_plain hs (by (first | assumption | exact plain_int | exact plain_bool | exact plain_undef | exact plain_nils | exact plain_nilp | exact plain_nilf | exact plain_str | with_reducible apply plain_pg | with_reducible apply plain_pgs | with_reducible apply plain_pgA | with_reducible apply plain_val | with_reducible apply plain_ints | with_reducible apply plain_none | with_reducible apply plain_stP | with_reducible apply plain_st4)) | (with_reducible refine wk_fn ?_ ?_ <;> repeat' (first | with_reducible exact wkl_nil | with_reducible refine wkl_cons ?_ ?_ | exact wk_ptr rfl (by first | decide | simp | omega))) | (with_reducible refine wk_agg ?_; repeat' (first | with_reducible exact wkl_nil | with_reducible refine wkl_cons ?_ ?_ | exact wk_int (by first | rfl | omega | (dsimp only; omega)) | exact wk_bool rfl)) | exact wk_yld rfl (by first | decide | simp | omega)))))))) ?_ | exact wko_nil))))) : p := h
theorem plain_st5 {a b c : Int} {l : List (Int × Int)} : Plain (.agg [.int .i64 a, .int .i64 b, .int .i64 c, .isl (l.map pgA)]) := plain_stP
theorem plain_c4 {a b c : Int} {l : List (Int × Int)} : ∀ x ∈ [AV.int .i64 a, .int .i64 b, .int .i64 c, .isl (l.map pgA)], Plain x := fun x hx => by
  simp only [List.mem_cons, List.not_mem_nil, or_false] at hx
  rcases hx with rfl | rfl | rfl | rfl
  · exact plain_int
  · exact plain_int
  · exact plain_int
  · exact plain_pgs
theorem k_samePu (a r k : Int) (l : List (Int × Int)) (hl : l.length ≤ 100000) : PureC Try.prog G0 16 [stP a r k l, stP a r k l] (.bool true) := by
  refine pure_x hmix b16 plainG ⟨plain_stP, plain_stP, trivial⟩ plain_bool rfl ?_
  unfold c16 stP
  ((repeat' ((try (conv => whnf)); first | (with_reducible first | refine run_cons ?_ | refine runq_cons ?_ | refine code_seq ?_ | refine code_reg ?_ | refine code_cond ?_ | refine run_nil ?_ | refine runq_nil ?_ | refine rund_op rfl ?_ | refine rund_nil ?_ | refine code_block ?_ | refine code_skip ?_ | refine code_exit ?_ | refine code_ret ?_ | refine code_range ?_ | refine rund_fast (by decide +kernel) ?_ | refine rund_slow (by decide +kernel) ?_ | refine br_tt ?_ | refine br_ff ?_ | refine br_n ?_ | refine br_and ?_ | refine br_or ?_ | refine br_t (by assumption) ?_ | refine br_f (by assumption) ?_ | refine eq_i64 (by omega) ?_ | refine el_tn ?_) | (with_reducible refine br_d ?_ ?_ <;> intro hsp <;> first | (exfalso; omega) | skip) | ((with_reducible refine ck_x ?_ ?_); focus (first | omega | rfl | assumption | decide | (simp only [List.length_map, List.length_cons, List.length_nil]; omega))) | (with_reducible first | refine eq_tn ?_ | refine eq_tn1 ?_ | refine eq_tn2 ?_ | refine eq_m1 ?_ | refine eq_m2 ?_ | refine eq_zm ?_ | refine eq_z ?_ | refine len_map ?_ | refine len_sl ?_ | refine len_nils ?_ | refine len_own' ?_ | refine len_isl ?_ | refine eq_u8 (by omega) ?_ | refine eq_u16 (by omega) ?_) | (with_reducible first | refine eq_rfl ?_ | refine ChkX.mk (by kernel_rfl) ?_ | refine code_q rfl ?_ | refine code_d (by decide +kernel) ?_ | refine end_go rfl ?_) | refine len_map ?_ | refine len_isl ?_ | refine el_of rfl rfl ?_ | refine del_own ?_ | refine del_own' rfl ?_ | refine as_go rfl ?_ | refine rd_go rfl ?_ | refine rg_end rfl ?_ | refine flat_ownX ?_ | (with_reducible refine br_b ?_ ?_ <;> intro hsp))) <;> (try (conv => whnf)))
  (refine loop_x [2, 3] (fun (i : Nat) => [(5, .int .i64 (i : Nat))]) (fun (i : Nat) => ⟨[(0, .cells [.int .i64 a, .int .i64 r, .int .i64 k, .isl (l.map pgA)]), (1, .cells [.int .i64 a, .int .i64 r, .int .i64 k, .isl (l.map pgA)])], 2⟩) (fun (i : Nat) => i ≤ l.length) (fun (i : Nat) => l.length - i) (0) [] rfl (fun _ => by first | exact Nat.zero_le _ | (dsimp only; omega)) ?_ (by ((try (conv => whnf)); exact wkx_Qi)) ?_)
  · exact Nat.zero_le _
  intro i hi
  by_cases hil : i < l.length
  · ((repeat' ((try (conv => whnf)); first | (with_reducible first | refine run_cons ?_ | refine runq_cons ?_ | refine code_seq ?_ | refine code_reg ?_ | refine code_cond ?_ | refine run_nil ?_ | refine runq_nil ?_ | refine rund_op rfl ?_ | refine rund_nil ?_ | refine code_block ?_ | refine code_skip ?_ | refine code_exit ?_ | refine code_ret ?_ | refine code_range ?_ | refine rund_fast (by decide +kernel) ?_ | refine rund_slow (by decide +kernel) ?_ | refine br_tt ?_ | refine br_ff ?_ | refine br_n ?_ | refine br_and ?_ | refine br_or ?_ | refine br_t (by assumption) ?_ | refine br_f (by assumption) ?_ | refine eq_i64 (by omega) ?_ | refine el_tn ?_) | (with_reducible refine br_d ?_ ?_ <;> intro hsp <;> first | (exfalso; omega) | skip) | ((with_reducible refine ck_x ?_ ?_); focus (first | omega | rfl | assumption | decide | (simp only [List.length_map, List.length_cons, List.length_nil]; omega))) | (with_reducible first | refine eq_tn ?_ | refine eq_tn1 ?_ | refine eq_tn2 ?_ | refine eq_m1 ?_ | refine eq_m2 ?_ | refine eq_zm ?_ | refine eq_z ?_ | refine len_map ?_ | refine len_sl ?_ | refine len_nils ?_ | refine len_own' ?_ | refine len_isl ?_ | refine eq_u8 (by omega) ?_ | refine eq_u16 (by omega) ?_) | refine el_map d0 pg_len hil ?_ | (with_reducible first | refine eq_rfl ?_ | refine ChkX.mk (by kernel_rfl) ?_ | refine code_q rfl ?_ | refine code_d (by decide +kernel) ?_ | refine end_go rfl ?_) | refine len_map ?_ | refine len_isl ?_ | refine el_of rfl rfl ?_ | refine del_own ?_ | refine del_own' rfl ?_ | refine as_go rfl ?_ | refine rd_go rfl ?_ | refine rg_end rfl ?_ | refine flat_ownX ?_ | (with_reducible refine br_b ?_ ?_ <;> intro hsp))) <;> (try (conv => whnf)))
    all_goals (first | exact absurd rfl hsp | skip)
    all_goals exact next_x (i + 1) [] (by (try dsimp only); omega) (by first | omega | (dsimp only; omega)) rfl (by exact wkx_Qi)
  · ((repeat' ((try (conv => whnf)); first | (with_reducible first | refine run_cons ?_ | refine runq_cons ?_ | refine code_seq ?_ | refine code_reg ?_ | refine code_cond ?_ | refine run_nil ?_ | refine runq_nil ?_ | refine rund_op rfl ?_ | refine rund_nil ?_ | refine code_block ?_ | refine code_skip ?_ | refine code_exit ?_ | refine code_ret ?_ | refine code_range ?_ | refine rund_fast (by decide +kernel) ?_ | refine rund_slow (by decide +kernel) ?_ | refine br_tt ?_ | refine br_ff ?_ | refine br_n ?_ | refine br_and ?_ | refine br_or ?_ | refine br_t (by assumption) ?_ | refine br_f (by assumption) ?_ | refine eq_i64 (by omega) ?_ | refine el_tn ?_) | (with_reducible refine br_d ?_ ?_ <;> intro hsp <;> first | (exfalso; omega) | skip) | ((with_reducible refine ck_x ?_ ?_); focus (first | omega | rfl | assumption | decide | (simp only [List.length_map, List.length_cons, List.length_nil]; omega))) | (with_reducible first | refine eq_tn ?_ | refine eq_tn1 ?_ | refine eq_tn2 ?_ | refine eq_m1 ?_ | refine eq_m2 ?_ | refine eq_zm ?_ | refine eq_z ?_ | refine len_map ?_ | refine len_sl ?_ | refine len_nils ?_ | refine len_own' ?_ | refine len_isl ?_ | refine eq_u8 (by omega) ?_ | refine eq_u16 (by omega) ?_) | (with_reducible first | refine eq_rfl ?_ | refine ChkX.mk (by kernel_rfl) ?_ | refine code_q rfl ?_ | refine code_d (by decide +kernel) ?_ | refine end_go rfl ?_) | refine len_map ?_ | refine len_isl ?_ | refine el_of rfl rfl ?_ | refine del_own ?_ | refine del_own' rfl ?_ | refine as_go rfl ?_ | refine rd_go rfl ?_ | refine rg_end rfl ?_ | refine flat_ownX ?_ | (with_reducible refine br_b ?_ ?_ <;> intro hsp))) <;> (try (conv => whnf)))
    all_goals exact end_bool rfl
set_option maxRecDepth 20000 in
theorem dcx_que {f : Nat} {avs : List AV} {x x' : QD} {a b c d : Nat} {h : Hp} {r : AV} {K : AV → Up → List Nat → Prop} (hc : LocQ f avs (queS x) r (queS x'))
    (hl0 : lk h.l a = some (.cells (x.que b))) (hl1 : lk h.l b = some (.cells (x.pool c d))) (hl2 : lk h.l c = some (.cells x.cells)) (hl3 : lk h.l d = some (.cells x.ends))
    (ha : ∀ x ∈ avs, Plain x) (hr : Plain r) (hd : nodB [a, b, c, d] = true) (hnx' : [a, b, c, d].contains h.next = false)
    (hk : K r [(a, some (.cells (x'.que b))), (b, some (.cells (x'.pool c d))), (c, some (.cells x'.cells)), (d, some (.cells x'.ends))] [a, b, c, d]) : DCallX Try.prog G0 f (.ptr a 0 :: avs) h K := by
  have hnx : h.next ∉ [a, b, c, d] := fun hm => by rw [List.contains_eq_mem, decide_eq_false_iff_not] at hnx'; exact hnx' hm
  have e0 : enter [a, b, c, d] a 0 := rfl
  have e1 : enter [a, b, c, d] b 1 := rfl
  have e2 : enter [a, b, c, d] c 2 := rfl
  have e3 : enter [a, b, c, d] d 3 := rfl
  have k0 : enterB [a, b, c, d] 0 a := rfl
  have k1 : enterB [a, b, c, d] 1 b := rfl
  have k2 : enterB [a, b, c, d] 2 c := rfl
  have k3 : enterB [a, b, c, d] 3 d := rfl
  refine dcx_loc (l1 := [(a, .cells (x'.que b)), (b, .cells (x'.pool c d)), (c, .cells x'.cells), (d, .cells x'.ends)]) [a, b, c, d] hc.out plainG hd
    (.cons e0 hl0 (show RnL (enter [a, b, c, d]) (queB x.age x.ref x.keep (x.Q 0).length b x.F) (queB x.age x.ref x.keep (x.Q 0).length 1 x.F) from ⟨rn_plain plain_int, rn_plain plain_int, rn_plain plain_int, rn_plain plain_int, rn_ptr e1, rnl_plain (memI_plain 1024 x.F)⟩) (.cons e1 hl1 ⟨rn_sl e2, rn_sl e3, rn_plain plain_int, trivial⟩ (.cons e2 hl2 (rnl_plain cells_plain) (.cons e3 hl3 (rnl_plain ends_plain) .nil))))
    hnx ?_ ?_ ⟨rn_ptr e0, rnl_plain ha⟩ (rn_plain hr)
    (.cons k0 (show RnL (enterB [a, b, c, d]) (queB x'.age x'.ref x'.keep (x'.Q 0).length 1 x'.F) (queB x'.age x'.ref x'.keep (x'.Q 0).length b x'.F) from ⟨rn_plain plain_int, rn_plain plain_int, rn_plain plain_int, rn_plain plain_int, rn_ptr k1, rnl_plain (memI_plain 1024 x'.F)⟩) (.cons k1 ⟨rn_sl k2, rn_sl k3, rn_plain plain_int, trivial⟩ (.cons k2 (rnl_plain cells_plain) (.cons k3 (rnl_plain ends_plain) .nil)))) hk
  · intro x hx
    simp only [lk]
    split
    · exact ⟨_, rfl⟩
    · split
      · exact ⟨_, rfl⟩
      · split
        · exact ⟨_, rfl⟩
        · rename_i h1 h2 h3
          rw [if_pos (by simp only [List.mem_cons, List.not_mem_nil, or_false] at hx; omega)]; exact ⟨_, rfl⟩
  · intro j x hx
    have : j < 4 := (List.getElem?_eq_some_iff.1 hx).1
    simp only [queS, lk]
    split
    · exact ⟨_, rfl⟩
    · split
      · exact ⟨_, rfl⟩
      · split
        · exact ⟨_, rfl⟩
        · rw [if_pos (by omega)]; exact ⟨_, rfl⟩
section
variable {x : QD}
set_option maxRecDepth 20000 in
theorem cx_qload {nx : Nat} {l : List (Nat × AObj)} {K : AV → Hp → Prop} {age ref keep : Int} {L : List (Int × Int)} (h : Chk age ref keep L 0) (hl : L.length ≤ 100000) (hk : ∀ x, GQ x → x.age = age → x.ref = ref → x.keep = keep → x.pages = L → K (.tup [.ptr nx 0, .int .i64 0]) ⟨[(nx, .cells (x.que (nx + 1))), (nx + 1, .cells (x.pool (nx + 2) (nx + 3))), (nx + 2, .cells x.cells), (nx + 3, .cells x.ends)] ++ l, nx + 4⟩) :
    CallX Try.prog G0 (.fn 12 [] []) [stP age ref keep L] ⟨l, nx⟩ K := by
  refine cx_locE [] (q_load h hl) plainG rfl .nil (rnl_plain (by simp [plain_stP])) (by simp) ?_
  rintro v h1 ⟨x, hg, e1, e2, e3, e4, rfl, rfl⟩
  have k0 : back [] nx 0 nx := rfl
  have k1 : back [] nx 1 (nx + 1) := rfl
  have k2 : back [] nx 2 (nx + 2) := rfl
  have k3 : back [] nx 3 (nx + 3) := rfl
  have hS : RnS (back [] nx) (queS x) [(nx, .cells (x.que (nx + 1))), (nx + 1, .cells (x.pool (nx + 2) (nx + 3))), (nx + 2, .cells x.cells), (nx + 3, .cells x.ends)] :=
    .cons k0 (show RnL (back [] nx) (queB x.age x.ref x.keep (x.Q 0).length 1 x.F) (queB x.age x.ref x.keep (x.Q 0).length (nx + 1) x.F) from ⟨rn_plain plain_int, rn_plain plain_int, rn_plain plain_int, rn_plain plain_int, rn_ptr k1, rnl_plain (memI_plain 1024 x.F)⟩) (.cons k1 ⟨rn_sl k2, rn_sl k3, rn_plain plain_int, trivial⟩ (.cons k2 (rnl_plain cells_plain) (.cons k3 (rnl_plain ends_plain) .nil)))
  exact ⟨_, _, .tup [.ptr nx 0, .int .i64 0], _, rfl, rn_tup (show RnL (back [] nx) [.ptr 0 0, .int .i64 0] [.ptr nx 0, .int .i64 0] from ⟨rn_ptr k0, rn_plain plain_int, trivial⟩), hS, filt_nil (hk x hg e1 e2 e3 e4)⟩
end
end Go.Proofs.Ytggkpagngnnjjaa
