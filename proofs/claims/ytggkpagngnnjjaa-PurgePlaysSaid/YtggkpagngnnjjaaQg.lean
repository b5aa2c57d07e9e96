/-
  Reuse of a page of a queue; Load that refuses.
-/
import Derived.Test.YtggkpagngnnjjaaQf
set_option linter.unusedSimpArgs false
set_option linter.unusedVariables false
namespace Go.Proofs.Ytggkpagngnnjjaa
open Go Go.Am Go.Pol
section
variable {x : QD}
set_option maxHeartbeats 1600000 in
set_option maxRecDepth 20000 in
theorem q_reuse (h : GQ x) {p s : Nat} {X Y : List Nat} (hp : x.V s = (p : Int)) (hQ : x.Q 0 = X ++ s :: Y) :
    ∃ x', GQ x' ∧ x'.age = x.age ∧ x'.ref = x.ref ∧ x'.keep = x.keep ∧ x'.pages = X.map x.pg ++ Y.map x.pg ∧ x'.Q 0 = X ++ Y ∧ (∀ t, t ≠ s → x'.pg t = x.pg t) ∧ LocQ 14 [.int .i64 (p : Nat)] (queS x) (.tup [.int .i64 (x.W s), .int .i64 0]) (queS x') := by
  have hsm : s ∈ x.Q 0 := by rw [hQ]; simp
  have hat : AtQ 1 x.Q s 0 X Y := ⟨by decide, hQ⟩
  obtain ⟨S', i1, c1⟩ := p_take h.good.inv h.good.n_le hat
  obtain ⟨q, hq1, hq2, hq3⟩ := h.vn hsm
  have hqp : q = p := by omega
  subst hqp
  have hsl := h.slot_lt hsm
  have hlen := h.good.inv.len 0
  have hnd := h.nd
  rw [hQ] at hnd
  have hXs : ∀ t, t ∈ X → t ≠ s := fun t ht e => (List.nodup_append.1 hnd).2.2 t ht s (List.mem_cons_self ..) e
  have hYs : ∀ t, t ∈ Y → t ≠ s := fun t ht e => (List.nodup_cons.1 (List.nodup_append.1 hnd).2.1).1 (e ▸ ht)
  have hpg : ∀ t, t ≠ s → QD.pg ⟨x.age, x.ref, x.keep, updI x.V s 0, updI x.W s 0, updI x.F q 0, updQ x.Q 0 (X ++ Y), S'⟩ t = x.pg t := fun t ht => by
    unfold QD.pg; dsimp only; rw [updI_ne ht, updI_ne ht]
  refine ⟨_, h.cut hp hQ i1, rfl, rfl, rfl, ?_, (by dsimp only; exact updQ_at ..), hpg, ?_⟩
  · unfold QD.pages
    dsimp only
    rw [updQ_at, List.map_append]
    congr 1
    · exact List.map_congr_left fun t ht => hpg t (hXs t ht)
    · exact List.map_congr_left fun t ht => hpg t (hYs t ht)
  have hq : (AV.int .i64 x.age :: AV.int .i64 x.ref :: AV.int .i64 x.keep :: AV.int .i64 (((x.Q 0).length : Nat) - 1 : Int) :: AV.ptr 1 0 :: memI 1024 (updI x.F q 0)) = QD.que ⟨x.age, x.ref, x.keep, updI x.V s 0, updI x.W s 0, updI x.F q 0, updQ x.Q 0 (X ++ Y), S'⟩ 1 := by
    unfold QD.que queB
    dsimp only
    rw [updQ_at, show (((x.Q 0).length : Nat) - 1 : Int) = (((X ++ Y).length : Nat) : Int) by rw [hQ]; simp; omega]
  have c2 : LocP 41 [.int .i64 ((s : Int) + 1 - 1)] 1024 1 (poolS 1024 1 x.V x.W x.S) (.tup [.agg [.int .i64 (x.V s), .int .i64 (x.W s)], .int .i64 0]) (poolS 1024 1 (updI x.V s 0) (updI x.W s 0) S') := by
    rw [show (s : Int) + 1 - 1 = (s : Int) by omega]; exact c1
  have g := qx_get (x := x) (pl := 1) hq1
  rw [hq3] at g
  refine LocQ.mk (loc_x hmix b14 rfl ?_)
  unfold c14
  ((repeat' ((try (conv => whnf)); first | (with_reducible first | refine run_cons ?_ | refine runq_cons ?_ | refine code_seq ?_ | refine code_reg ?_ | refine code_cond ?_ | refine run_nil ?_ | refine runq_nil ?_ | refine rund_op rfl ?_ | refine rund_nil ?_ | refine code_block ?_ | refine code_skip ?_ | refine code_exit ?_ | refine code_ret ?_ | refine code_range ?_ | refine rund_fast (by decide +kernel) ?_ | refine rund_slow (by decide +kernel) ?_ | refine br_tt ?_ | refine br_ff ?_ | refine br_n ?_ | refine br_and ?_ | refine br_or ?_ | refine br_t (by assumption) ?_ | refine br_f (by assumption) ?_ | refine eq_i64 (by omega) ?_ | refine el_tn ?_) | (with_reducible refine br_d ?_ ?_ <;> intro hsp <;> first | (exfalso; omega) | skip) | ((with_reducible refine ck_x ?_ ?_); focus (first | omega | rfl | assumption | decide | (simp only [List.length_map, List.length_cons, List.length_nil]; omega))) | (with_reducible first | refine eq_tn ?_ | refine eq_tn1 ?_ | refine eq_tn2 ?_ | refine eq_m1 ?_ | refine eq_m2 ?_ | refine eq_zm ?_ | refine eq_z ?_ | refine len_map ?_ | refine len_sl ?_ | refine len_nils ?_ | refine len_own' ?_ | refine len_isl ?_ | refine eq_u8 (by omega) ?_ | refine eq_u16 (by omega) ?_) | refine nthK_of (g) ?_ | refine set1K_of (by rw [qx_len]; omega) qx_set ?_ | (with_reducible first | refine eq_rfl ?_ | refine ChkX.mk (by kernel_rfl) ?_ | refine code_q rfl ?_ | refine code_d (by decide +kernel) ?_ | refine end_go rfl ?_) | (refine cx_in hmix b40 rfl ?_; unfold c40) | (refine cx_in hmix b38 rfl ?_; unfold c38) | refine cx_pool c2 rfl rfl rfl (by decide) (by simp [plain_int, plain_bool]) plain_val rfl ?_ | refine len_map ?_ | refine len_isl ?_ | refine el_of rfl rfl ?_ | refine del_own ?_ | refine del_own' rfl ?_ | refine as_go rfl ?_ | refine rd_go rfl ?_ | refine rg_end rfl ?_ | refine flat_ownX ?_ | (with_reducible refine br_b ?_ ?_ <;> intro hsp))) <;> (try (conv => whnf)))
  all_goals exact end_que (wk_ints rfl rfl) (congrArg (fun c => some (AObj.cells c)) hq) rfl rfl rfl
end
end Go.Proofs.Ytggkpagngnnjjaa
