/-
  LinksPlays: the walk of the law.
-/
import Derived.Test.YtnddcnnangjgeaaLr
set_option linter.unusedSimpArgs false
set_option linter.unusedVariables false
namespace Go.Pol
open Go.Am
def callsA (l : List Cl) : AV := .isl (l.map callA)
theorem call_len (x : Cl) : (callA x).length = 5 := rfl
theorem plain_callL (x : Cl) : ∀ y ∈ callA x, Plain y := fun y hy => by
  simp only [callA, List.mem_cons, List.not_mem_nil, or_false] at hy
  rcases hy with rfl | rfl | rfl | rfl | rfl <;> first | exact plain_int | exact plain_bool
theorem plain_calls {l : List Cl} : Plain (callsA l) := plain_isl fun e he => by
  obtain ⟨x, _, rfl⟩ := List.mem_map.1 he; exact plain_callL x
theorem plain_callA (x : Cl) : Plain (.agg (callA x)) := plain_agg (plain_callL x)
end Go.Pol
namespace Go.Proofs.Ytnddcnnangjgeaa
open Go Go.Am Go.Pol
theorem wkx_Ls {p : Prop} (h : p := by (refine weak_s (by exact oneOf_of rfl) (by exact subH_of rfl) (by intro hs; (repeat' ((try (conv => whnf)); first | with_reducible exact True.intro | with_reducible refine And.intro ?_ ?_ | (with_reducible refine WkX.mk ?_; first | exact wk_int (by first | rfl | omega | (dsimp only; omega)) | exact wk_bool rfl | exact wk_ptr rfl (by first | decide | omega | simp) | exact wk_sl rfl (by first | decide | omega | simp) (by first | rfl | omega | simp) (by first | omega | simp) (by first | omega | simp) | exact wk_plain hs (by (first | assumption | exact plain_int | exact plain_bool | exact plain_undef | exact plain_nils | exact plain_nilp | exact plain_nilf | exact plain_str | with_reducible apply slots_plain | with_reducible apply plain_calls | with_reducible apply plain_stateLk | with_reducible apply plain_callI)))))) (by intro hs; (try dsimp only); (repeat' (first | with_reducible exact wko_nil | refine wko_plain hs (by first | decide | omega | simp) rfl (by first | rfl) (by (first | with_reducible assumption | with_reducible apply cells_plain | with_reducible apply ends_plain | with_reducible apply of_plain _ _ | with_reducible apply memI_plain _ _ | with_reducible apply plain_map (fun _ => plain_int) | with_reducible apply plain_map (fun _ => plain_bool) | ((repeat' (first | exact plain_all0 | refine plain_all2 ?_ ?_ | exact plain_int | first | assumption | exact plain_int | exact plain_bool | exact plain_undef | exact plain_nils | exact plain_nilp | exact plain_nilf | exact plain_str | with_reducible apply slots_plain | with_reducible apply plain_calls | with_reducible apply plain_stateLk | with_reducible apply plain_callI)); done) | ((refine plain_app ?_ ?_) <;> (first | with_reducible assumption | with_reducible apply cells_plain | with_reducible apply ends_plain | with_reducible apply of_plain _ _ | with_reducible apply memI_plain _ _ | with_reducible apply plain_map (fun _ => plain_int) | with_reducible apply plain_map (fun _ => plain_bool) | ((repeat' (first | exact plain_all0 | refine plain_all2 ?_ ?_ | exact plain_int | first | assumption | exact plain_int | exact plain_bool | exact plain_undef | exact plain_nils | exact plain_nilp | exact plain_nilf | exact plain_str | with_reducible apply slots_plain | with_reducible apply plain_calls | with_reducible apply plain_stateLk | with_reducible apply plain_callI)); done))))) ?_ | refine wko_cells (by first | decide | omega | simp) rfl (by repeat' (first | with_reducible exact wkl_nil | with_reducible refine wkl_cons ?_ ?_ | (first | exact wk_int (by first | rfl | omega | (dsimp only; omega)) | exact wk_bool rfl | exact wk_ptr rfl (by first | decide | omega | simp) | exact wk_sl rfl (by first | decide | omega | simp) (by first | rfl | omega | simp) (by first | omega | simp) (by first | omega | simp) | exact wk_plain hs (by (first | assumption | exact plain_int | exact plain_bool | exact plain_undef | exact plain_nils | exact plain_nilp | exact plain_nilf | exact plain_str | with_reducible apply slots_plain | with_reducible apply plain_calls | with_reducible apply plain_stateLk | with_reducible apply plain_callI))))) ?_ | exact wko_nil))))) : p := h
theorem plain_callI {l : List Cl} : Plain (.isl (l.map callA)) := plain_calls
section
variable {n m : Nat} {V : Nat → Int} {Q : Nat → List Nat} {S : PS}
/-- A call on both, in another store. -/
theorem cx_both {f : Nat} {args : List AV} {r : AV} {V' : Nat → Int} {Q' : Nat → List Nat} {S' : PS} {nx : Nat} {l : List (Nat × AObj)} {K : AV → Hp → Prop} (hc : LocC Try.prog G0 f args (bothB n m V Q S) 6 fun x h1 => x = r ∧ h1 = ⟨bothB n m V' Q' S', 6⟩)
    (h0 : lk l 0 = some (.cells [.sl 1 0 n n 4, .sl 2 0 m m 3, .int .i64 (S.fr : Nat)])) (h1 : lk l 1 = some (.cells (cellsB n V S.L S.N S.P))) (h2 : lk l 2 = some (.cells (endsB m S.A S.B S.C)))
    (h3 : lk l 3 = some (.cells [.int .i64 (n : Nat), .sl 4 0 m m 1, .sl 5 0 n n 1])) (h4 : lk l 4 = some (.cells (ofB m Q))) (h5 : lk l 5 = some (.cells (memI n V))) (hnx : 6 ≤ nx) (ha : RnL (enter [0, 1, 2, 3, 4, 5]) args args) (hr : Plain r)
    (hk : filtK [0, 1, 2, 3, 4, 5] l fun l2 => K r ⟨bothB n m V' Q' S' ++ l2, nx⟩) : CallX Try.prog G0 (.fn f [] []) args ⟨l, nx⟩ K := by
  have e0 : enter [0, 1, 2, 3, 4, 5] 0 0 := rfl
  have e1 : enter [0, 1, 2, 3, 4, 5] 1 1 := rfl
  have e2 : enter [0, 1, 2, 3, 4, 5] 2 2 := rfl
  have e3 : enter [0, 1, 2, 3, 4, 5] 3 3 := rfl
  have e4 : enter [0, 1, 2, 3, 4, 5] 4 4 := rfl
  have e5 : enter [0, 1, 2, 3, 4, 5] 5 5 := rfl
  have k0 : back [0, 1, 2, 3, 4, 5] nx 0 0 := rfl
  have k1 : back [0, 1, 2, 3, 4, 5] nx 1 1 := rfl
  have k2 : back [0, 1, 2, 3, 4, 5] nx 2 2 := rfl
  have k3 : back [0, 1, 2, 3, 4, 5] nx 3 3 := rfl
  have k4 : back [0, 1, 2, 3, 4, 5] nx 4 4 := rfl
  have k5 : back [0, 1, 2, 3, 4, 5] nx 5 5 := rfl
  refine cx_loc (l1 := bothB n m V' Q' S') [0, 1, 2, 3, 4, 5] hc plainG rfl
    (.cons e0 h0 ⟨rn_sl e1, rn_sl e2, rn_plain plain_int, trivial⟩ (.cons e1 h1 (rnl_plain cells_plain) (.cons e2 h2 (rnl_plain ends_plain) (.cons e3 h3 ⟨rn_plain plain_int, rn_sl e4, rn_sl e5, trivial⟩ (.cons e4 h4 (rnl_plain (of_plain _ _)) (.cons e5 h5 (rnl_plain (memI_plain _ _)) .nil))))))
    (by simpa using ha) (by intro x hx; simp only [List.mem_cons, List.not_mem_nil, or_false] at hx; omega) (rn_plain hr)
    (.cons k0 ⟨rn_sl k1, rn_sl k2, rn_plain plain_int, trivial⟩ (.cons k1 (rnl_plain cells_plain) (.cons k2 (rnl_plain ends_plain) (.cons k3 ⟨rn_plain plain_int, rn_sl k4, rn_sl k5, trivial⟩ (.cons k4 (rnl_plain (of_plain _ _)) (.cons k5 (rnl_plain (memI_plain _ _)) .nil)))))) hk
end
/-- A contract of a pure call, as a thing of its own. -/
structure PureS (f : Nat) (args : List AV) (r : AV) : Prop where
  out : PureC Try.prog G0 f args r
theorem cx_pureS {g : Nat} {avs : List AV} {r : AV} {h : Hp} {K : AV → Hp → Prop} (hp : PureS g avs r) (hk : K r h) : CallX Try.prog G0 (.fn g [] []) avs h K := cx_pure (by simpa using hp.out) hk
theorem cx_new {n m nx : Nat} {l : List (Nat × AObj)} {K : AV → Hp → Prop} (h1 : 1 ≤ n) (h2 : n ≤ 2000) (h3 : 1 ≤ m) (h4 : m ≤ 64) (hk : K (.tup [.ptr nx 0, .int .i64 0]) ⟨[(nx, .cells [.sl (nx + 1) 0 n n 4, .sl (nx + 2) 0 m m 3, .int .i64 0]), (nx + 1, .cells (cellsB n (fun _ => 0) (S0 n m).L (S0 n m).N (S0 n m).P)), (nx + 2, .cells (endsB m (S0 n m).A (S0 n m).B (S0 n m).C))] ++ l, nx + 3⟩) :
    CallX Try.prog G0 (.fn 42 [] []) [.int .i64 (n : Nat), .int .i64 (m : Nat)] ⟨l, nx⟩ K := by
  have k0 : back [] nx 0 nx := rfl
  have k1 : back [] nx 1 (nx + 1) := rfl
  have k2 : back [] nx 2 (nx + 2) := rfl
  refine cx_loc (r' := .tup [.ptr nx 0, .int .i64 0]) (l1 := [(nx, .cells [.sl (nx + 1) 0 n n 4, .sl (nx + 2) 0 m m 3, .int .i64 0]), (nx + 1, .cells (cellsB n (fun _ => 0) (S0 n m).L (S0 n m).N (S0 n m).P)), (nx + 2, .cells (endsB m (S0 n m).A (S0 n m).B (S0 n m).C))]) [] (l_new n m h1 h2 h3 h4) plainG rfl .nil (rnl_plain (by simp [plain_int])) (by simp) (rn_tup ⟨rn_ptr k0, rn_plain plain_int, trivial⟩)
    (.cons k0 ⟨rn_sl k1, rn_sl k2, rn_plain plain_int, trivial⟩ (.cons k1 (rnl_plain cells_plain) (.cons k2 (rnl_plain ends_plain) .nil))) ?_
  have e : ∀ {l : List (Nat × AObj)} {k : List (Nat × AObj) → Prop}, k l → filtK [] l k := fun {l} => by
    induction l with
    | nil => exact fun h => h
    | cons a l ih => exact fun {k} h => ih (k := fun r => k (a :: r)) h
  exact e hk
theorem cx_rnew {n m nx : Nat} {l : List (Nat × AObj)} {K : AV → Hp → Prop} (h1 : 1 ≤ n) (h2 : n ≤ 2000) (h3 : 1 ≤ m) (h4 : m ≤ 64) (hk : K (.tup [.agg [.int .i64 (n : Nat), .sl nx 0 m m 1, .sl (nx + 1) 0 n n 1], .int .i64 0]) ⟨[(nx, .cells (ofB m fun _ => [])), (nx + 1, .cells (memI n fun _ => 0))] ++ l, nx + 2⟩) :
    CallX Try.prog G0 (.fn 43 [] []) [.int .i64 (n : Nat), .int .i64 (m : Nat)] ⟨l, nx⟩ K := by
  have k0 : back [] nx 0 nx := rfl
  have k1 : back [] nx 1 (nx + 1) := rfl
  refine cx_loc (r' := .tup [.agg [.int .i64 (n : Nat), .sl nx 0 m m 1, .sl (nx + 1) 0 n n 1], .int .i64 0]) (l1 := [(nx, .cells (ofB m fun _ => [])), (nx + 1, .cells (memI n fun _ => 0))]) [] (r_new n m h1 h2 h3 h4) plainG rfl .nil (rnl_plain (by simp [plain_int])) (by simp) (rn_tup ⟨rn_agg ⟨rn_plain plain_int, rn_sl k0, rn_sl k1, trivial⟩, rn_plain plain_int, trivial⟩)
    (.cons k0 (rnl_plain (of_plain _ _)) (.cons k1 (rnl_plain (memI_plain _ _)) .nil)) ?_
  have e : ∀ {l : List (Nat × AObj)} {k : List (Nat × AObj) → Prop}, k l → filtK [] l k := fun {l} => by
    induction l with
    | nil => exact fun h => h
    | cons a l ih => exact fun {k} h => ih (k := fun r => k (a :: r)) h
  exact e hk
theorem plays_far (a b : Int) (l : List Cl) (h : (100 < a ∧ a ≤ 2000) ∨ 100 < l.length) : PureC Try.prog G0 7 [.int .i64 a, .int .i64 b, callsA l] (.bool true) := by
  have z_k_awake := PureS.mk k_awake
  refine pure_x hmix b7 plainG ⟨plain_int, plain_int, plain_calls, trivial⟩ plain_bool rfl ?_
  unfold c7 callsA
  ((repeat' ((try (conv => whnf)); first | (with_reducible first | refine run_cons ?_ | refine runq_cons ?_ | refine code_seq ?_ | refine code_reg ?_ | refine code_cond ?_ | refine run_nil ?_ | refine runq_nil ?_ | refine rund_op rfl ?_ | refine rund_nil ?_ | refine code_block ?_ | refine code_skip ?_ | refine code_exit ?_ | refine code_ret ?_ | refine code_range ?_ | refine rund_fast (by decide +kernel) ?_ | refine rund_slow (by decide +kernel) ?_ | refine br_tt ?_ | refine br_ff ?_ | refine br_n ?_ | refine br_and ?_ | refine br_or ?_ | refine br_t (by assumption) ?_ | refine br_f (by assumption) ?_ | refine eq_i64 (by omega) ?_ | refine el_tn ?_) | (with_reducible refine br_d ?_ ?_ <;> intro hsp <;> first | (exfalso; omega) | skip) | ((with_reducible refine ck_x ?_ ?_); focus (first | omega | rfl | assumption | decide | (simp only [List.length_map, List.length_cons, List.length_nil]; omega))) | (with_reducible first | refine eq_tn ?_ | refine eq_tn1 ?_ | refine eq_tn2 ?_ | refine eq_m1 ?_ | refine eq_m2 ?_ | refine eq_zm ?_ | refine eq_z ?_ | refine len_map ?_ | refine len_sl ?_ | refine len_nils ?_ | refine len_own' ?_ | refine len_isl ?_ | refine eq_u8 (by omega) ?_ | refine eq_u16 (by omega) ?_) | (with_reducible first | refine eq_rfl ?_ | refine ChkX.mk (by kernel_rfl) ?_ | refine code_q rfl ?_ | refine code_d (by decide +kernel) ?_ | refine end_go rfl ?_) | refine cx_pureS z_k_awake ?_ | refine len_map ?_ | refine len_isl ?_ | refine el_of rfl rfl ?_ | refine del_own ?_ | refine del_own' rfl ?_ | refine as_go rfl ?_ | refine rd_go rfl ?_ | refine rg_end rfl ?_ | refine flat_ownX ?_ | (with_reducible refine br_b ?_ ?_ <;> intro hsp))) <;> (try (conv => whnf)))
  all_goals exact end_bool rfl
theorem plays_none (a b : Int) (l : List Cl) (h : ¬ ((100 < a ∧ a ≤ 2000) ∨ 100 < l.length)) (hb : a < 1 ∨ 2000 < a ∨ b < 1 ∨ 64 < b) : PureC Try.prog G0 7 [.int .i64 a, .int .i64 b, callsA l] (.bool true) := by
  have w1 := l_new_no a b hb
  have w2 := r_new_no a b hb
  have z_k_awake := PureS.mk k_awake
  have z_n_get := PureS.mk n_get
  have z_n_len := PureS.mk n_len
  have z_n_push := PureS.mk n_push
  have z_n_put := PureS.mk n_put
  have z_n_save := PureS.mk n_save
  have z_n_walked := PureS.mk n_walked
  have z_w1 := PureS.mk w1
  have z_w2 := PureS.mk w2
  refine pure_x hmix b7 plainG ⟨plain_int, plain_int, plain_calls, trivial⟩ plain_bool rfl ?_
  unfold c7 callsA
  ((repeat' ((try (conv => whnf)); first | (with_reducible first | refine run_cons ?_ | refine runq_cons ?_ | refine code_seq ?_ | refine code_reg ?_ | refine code_cond ?_ | refine run_nil ?_ | refine runq_nil ?_ | refine rund_op rfl ?_ | refine rund_nil ?_ | refine code_block ?_ | refine code_skip ?_ | refine code_exit ?_ | refine code_ret ?_ | refine code_range ?_ | refine rund_fast (by decide +kernel) ?_ | refine rund_slow (by decide +kernel) ?_ | refine br_tt ?_ | refine br_ff ?_ | refine br_n ?_ | refine br_and ?_ | refine br_or ?_ | refine br_t (by assumption) ?_ | refine br_f (by assumption) ?_ | refine eq_i64 (by omega) ?_ | refine el_tn ?_) | (with_reducible refine br_d ?_ ?_ <;> intro hsp <;> first | (exfalso; omega) | skip) | ((with_reducible refine ck_x ?_ ?_); focus (first | omega | rfl | assumption | decide | (simp only [List.length_map, List.length_cons, List.length_nil]; omega))) | (with_reducible first | refine eq_tn ?_ | refine eq_tn1 ?_ | refine eq_tn2 ?_ | refine eq_m1 ?_ | refine eq_m2 ?_ | refine eq_zm ?_ | refine eq_z ?_ | refine len_map ?_ | refine len_sl ?_ | refine len_nils ?_ | refine len_own' ?_ | refine len_isl ?_ | refine eq_u8 (by omega) ?_ | refine eq_u16 (by omega) ?_) | (with_reducible first | refine eq_rfl ?_ | refine ChkX.mk (by kernel_rfl) ?_ | refine code_q rfl ?_ | refine code_d (by decide +kernel) ?_ | refine end_go rfl ?_) | refine cx_pureS z_k_awake ?_ | refine cx_pureS z_w1 ?_ | refine cx_pureS z_w2 ?_ | refine cx_pureS z_n_push ?_ | refine cx_pureS z_n_get ?_ | refine cx_pureS z_n_len ?_ | refine cx_pureS z_n_put ?_ | refine cx_pureS z_n_save ?_ | refine cx_pureS z_n_walked ?_ | refine len_map ?_ | refine len_isl ?_ | refine el_of rfl rfl ?_ | refine del_own ?_ | refine del_own' rfl ?_ | refine as_go rfl ?_ | refine rd_go rfl ?_ | refine rg_end rfl ?_ | refine flat_ownX ?_ | (with_reducible refine br_b ?_ ?_ <;> intro hsp))) <;> (try (conv => whnf)))
  all_goals first | exact end_bool rfl | (exfalso; simp at hsp; done)
set_option maxHeartbeats 1600000 in
theorem plays_good (n m : Nat) (l : List Cl) (hn : 1 ≤ n) (hn2 : n ≤ 100) (hm : 1 ≤ m) (hm2 : m ≤ 64) (hl : l.length ≤ 100) (hx : ∀ x ∈ l, x.1 < 256) : PureC Try.prog G0 7 [.int .i64 (n : Nat), .int .i64 (m : Nat), callsA l] (.bool true) := by
  have z_k_awake := PureS.mk k_awake
  refine pure_x hmix b7 plainG ⟨plain_int, plain_int, plain_calls, trivial⟩ plain_bool rfl ?_
  unfold c7 callsA
  have h0 := good_0 (n := n) (m := m) (by omega) (by omega) hm2
  ((repeat' ((try (conv => whnf)); first | (with_reducible first | refine run_cons ?_ | refine runq_cons ?_ | refine code_seq ?_ | refine code_reg ?_ | refine code_cond ?_ | refine run_nil ?_ | refine runq_nil ?_ | refine rund_op rfl ?_ | refine rund_nil ?_ | refine code_block ?_ | refine code_skip ?_ | refine code_exit ?_ | refine code_ret ?_ | refine code_range ?_ | refine rund_fast (by decide +kernel) ?_ | refine rund_slow (by decide +kernel) ?_ | refine br_tt ?_ | refine br_ff ?_ | refine br_n ?_ | refine br_and ?_ | refine br_or ?_ | refine br_t (by assumption) ?_ | refine br_f (by assumption) ?_ | refine eq_i64 (by omega) ?_ | refine el_tn ?_) | (with_reducible refine br_d ?_ ?_ <;> intro hsp <;> first | (exfalso; omega) | skip) | ((with_reducible refine ck_x ?_ ?_); focus (first | omega | rfl | assumption | decide | (simp only [List.length_map, List.length_cons, List.length_nil]; omega))) | (with_reducible first | refine eq_tn ?_ | refine eq_tn1 ?_ | refine eq_tn2 ?_ | refine eq_m1 ?_ | refine eq_m2 ?_ | refine eq_zm ?_ | refine eq_z ?_ | refine len_map ?_ | refine len_sl ?_ | refine len_nils ?_ | refine len_own' ?_ | refine len_isl ?_ | refine eq_u8 (by omega) ?_ | refine eq_u16 (by omega) ?_) | (with_reducible first | refine eq_rfl ?_ | refine ChkX.mk (by kernel_rfl) ?_ | refine code_q rfl ?_ | refine code_d (by decide +kernel) ?_ | refine end_go rfl ?_) | refine cx_new hn (by omega) hm hm2 ?_ | refine cx_rnew hn (by omega) hm hm2 ?_ | refine len_map ?_ | refine len_isl ?_ | refine el_of rfl rfl ?_ | refine del_own ?_ | refine del_own' rfl ?_ | refine as_go rfl ?_ | refine rd_go rfl ?_ | refine rg_end rfl ?_ | refine flat_ownX ?_ | (with_reducible refine br_b ?_ ?_ <;> intro hsp))) <;> (try (conv => whnf)))
  all_goals (first | (exfalso; simp at hsp; done) | skip)
  (refine loop_x [2] (fun (q : Nat × (Nat → Int) × (Nat → List Nat) × PS) => [(7, .ptr 0 0), (9, .ptr 3 0), (13, .int .i64 (q.1 : Nat))]) (fun (q : Nat × (Nat → Int) × (Nat → List Nat) × PS) => ⟨bothB n m q.2.1 q.2.2.1 q.2.2.2, 6⟩) (fun (q : Nat × (Nat → Int) × (Nat → List Nat) × PS) => q.1 ≤ l.length ∧ GoodP n m q.2.1 q.2.2.1 q.2.2.2) (fun (q : Nat × (Nat → Int) × (Nat → List Nat) × PS) => l.length - q.1) ((0, (fun _ => 0), (fun _ => []), S0 n m)) [(3, 5), (4, 3), (5, 4)] rfl (fun _ => by first | exact Nat.zero_le _ | (dsimp only; omega)) ?_ (by ((try (conv => whnf)); exact wkx_Ls)) ?_)
  · exact ⟨Nat.zero_le _, h0⟩
  rintro ⟨i, V, Q, S⟩ ⟨hi, hg⟩
  dsimp only at hi hg ⊢
  by_cases hil : i < l.length
  · obtain ⟨V', Q', S', hg', hdo⟩ := l_do hg (nth (0, 0, 0, 0, false) l i) (hx _ (nth_mem hil))
    have ha : RnL (enter [0, 1, 2, 3, 4, 5]) [.ptr 0 0, .ptr 3 0, .agg (callA (nth (0, 0, 0, 0, false) l i))] [.ptr 0 0, .ptr 3 0, .agg (callA (nth (0, 0, 0, 0, false) l i))] := ⟨rn_ptr (show enter [0, 1, 2, 3, 4, 5] 0 0 from rfl), rn_ptr (show enter [0, 1, 2, 3, 4, 5] 3 3 from rfl), rn_plain (plain_callA _), trivial⟩
    ((repeat' ((try (conv => whnf)); first | (with_reducible first | refine run_cons ?_ | refine runq_cons ?_ | refine code_seq ?_ | refine code_reg ?_ | refine code_cond ?_ | refine run_nil ?_ | refine runq_nil ?_ | refine rund_op rfl ?_ | refine rund_nil ?_ | refine code_block ?_ | refine code_skip ?_ | refine code_exit ?_ | refine code_ret ?_ | refine code_range ?_ | refine rund_fast (by decide +kernel) ?_ | refine rund_slow (by decide +kernel) ?_ | refine br_tt ?_ | refine br_ff ?_ | refine br_n ?_ | refine br_and ?_ | refine br_or ?_ | refine br_t (by assumption) ?_ | refine br_f (by assumption) ?_ | refine eq_i64 (by omega) ?_ | refine el_tn ?_) | (with_reducible refine br_d ?_ ?_ <;> intro hsp <;> first | (exfalso; omega) | skip) | ((with_reducible refine ck_x ?_ ?_); focus (first | omega | rfl | assumption | decide | (simp only [List.length_map, List.length_cons, List.length_nil]; omega))) | (with_reducible first | refine eq_tn ?_ | refine eq_tn1 ?_ | refine eq_tn2 ?_ | refine eq_m1 ?_ | refine eq_m2 ?_ | refine eq_zm ?_ | refine eq_z ?_ | refine len_map ?_ | refine len_sl ?_ | refine len_nils ?_ | refine len_own' ?_ | refine len_isl ?_ | refine eq_u8 (by omega) ?_ | refine eq_u16 (by omega) ?_) | refine el_map (0, 0, 0, 0, false) call_len hil ?_ | (with_reducible first | refine eq_rfl ?_ | refine ChkX.mk (by kernel_rfl) ?_ | refine code_q rfl ?_ | refine code_d (by decide +kernel) ?_ | refine end_go rfl ?_) | refine cx_both hdo rfl rfl rfl rfl rfl rfl (by decide) ha plain_bool ?_ | refine len_map ?_ | refine len_isl ?_ | refine el_of rfl rfl ?_ | refine del_own ?_ | refine del_own' rfl ?_ | refine as_go rfl ?_ | refine rd_go rfl ?_ | refine rg_end rfl ?_ | refine flat_ownX ?_ | (with_reducible refine br_b ?_ ?_ <;> intro hsp))) <;> (try (conv => whnf)))
    exact next_x (i + 1, V', Q', S') [] ⟨by dsimp only; omega, hg'⟩ (by first | omega | (dsimp only; omega)) rfl (by exact wkx_Ls)
  · have s1 := l_save (n := n) (m := m) (fr := S.fr) (V := V) (L := S.L) (N := S.N) (P := S.P) (A := S.A) (B := S.B) (C := S.C) (by omega) (by omega) (by omega) hm2
    have s2 := q_save (V := V) hg.inv.st (by omega) (by omega) (by omega) hm2 hg.q.len
    have s3 := k_same n m V S.L S.N S.P S.A S.B (by omega) hm2
    have z_s3 := PureS.mk s3
    ((repeat' ((try (conv => whnf)); first | (with_reducible first | refine run_cons ?_ | refine runq_cons ?_ | refine code_seq ?_ | refine code_reg ?_ | refine code_cond ?_ | refine run_nil ?_ | refine runq_nil ?_ | refine rund_op rfl ?_ | refine rund_nil ?_ | refine code_block ?_ | refine code_skip ?_ | refine code_exit ?_ | refine code_ret ?_ | refine code_range ?_ | refine rund_fast (by decide +kernel) ?_ | refine rund_slow (by decide +kernel) ?_ | refine br_tt ?_ | refine br_ff ?_ | refine br_n ?_ | refine br_and ?_ | refine br_or ?_ | refine br_t (by assumption) ?_ | refine br_f (by assumption) ?_ | refine eq_i64 (by omega) ?_ | refine el_tn ?_) | (with_reducible refine br_d ?_ ?_ <;> intro hsp <;> first | (exfalso; omega) | skip) | ((with_reducible refine ck_x ?_ ?_); focus (first | omega | rfl | assumption | decide | (simp only [List.length_map, List.length_cons, List.length_nil]; omega))) | (with_reducible first | refine eq_tn ?_ | refine eq_tn1 ?_ | refine eq_tn2 ?_ | refine eq_m1 ?_ | refine eq_m2 ?_ | refine eq_zm ?_ | refine eq_z ?_ | refine len_map ?_ | refine len_sl ?_ | refine len_nils ?_ | refine len_own' ?_ | refine len_isl ?_ | refine eq_u8 (by omega) ?_ | refine eq_u16 (by omega) ?_) | (with_reducible first | refine eq_rfl ?_ | refine ChkX.mk (by kernel_rfl) ?_ | refine code_q rfl ?_ | refine code_d (by decide +kernel) ?_ | refine end_go rfl ?_) | refine cx_pureS z_k_awake ?_ | refine cx_pureS z_s3 ?_ | refine cx_pool s1 rfl rfl rfl (by decide) (by simp) plain_stateLk rfl ?_ | refine cx_ref s2 rfl rfl rfl (by decide) (by simp) plain_stateLk rfl ?_ | refine len_map ?_ | refine len_isl ?_ | refine el_of rfl rfl ?_ | refine del_own ?_ | refine del_own' rfl ?_ | refine as_go rfl ?_ | refine rd_go rfl ?_ | refine rg_end rfl ?_ | refine flat_ownX ?_ | (with_reducible refine br_b ?_ ?_ <;> intro hsp))) <;> (try (conv => whnf)))
    exact end_bool rfl
end Go.Proofs.Ytnddcnnangjgeaa
