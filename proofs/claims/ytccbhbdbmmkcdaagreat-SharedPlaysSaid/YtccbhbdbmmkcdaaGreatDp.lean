/-
 Read and Write of both, at any place.
-/
import Derived.Test.YtccbhbdbmmkcdaaGreatDo
import Derived.Test.YtccbhbdbmmkcdaaGreatEc
set_option linter.unusedSimpArgs false
set_option linter.unusedVariables false
namespace Go.Proofs.YtccbhbdbmmkcdaaGreat.Sh
open Go Go.Am Go.Pol
theorem wx_Dp {p q : Prop} (hq : q) (h : HidP q → p := by (intro hQz; ((repeat' ((try (conv => whnf)); first | (with_reducible first | refine run_cons ?_ | refine runq_cons ?_ | refine code_seq ?_ | refine code_reg ?_ | refine code_cond ?_ | refine run_nil ?_ | refine runq_nil ?_ | refine rund_op rfl ?_ | refine rund_nil ?_ | refine code_block ?_ | refine code_skip ?_ | refine code_exit ?_ | refine code_ret ?_ | refine code_range ?_ | refine rund_fast (by decide +kernel) ?_ | refine rund_slow (by decide +kernel) ?_ | refine br_tt ?_ | refine br_ff ?_ | refine br_n ?_ | refine br_and ?_ | refine br_or ?_ | refine br_t (by assumption) ?_ | refine br_f (by assumption) ?_ | refine eq_i64 (by omega) ?_ | refine el_tn ?_) | ((with_reducible refine br_dt ?_ ?_); focus omega) | ((with_reducible refine br_df ?_ ?_); focus omega) | ((with_reducible apply br_dq hQz) <;> (try intro hsp hQz)) | ((with_reducible refine ck_x ?_ ?_); focus (first | omega | rfl | assumption | decide | (simp only [List.length_map, List.length_cons, List.length_nil]; omega))) | (with_reducible first | refine eq_tn ?_ | refine eq_tn1 ?_ | refine eq_tn2 ?_ | refine eq_m1 ?_ | refine eq_m2 ?_ | refine eq_zm ?_ | refine eq_z ?_ | refine len_map ?_ | refine len_sl ?_ | refine len_nils ?_ | refine len_own' ?_ | refine len_isl ?_ | refine eq_u8 (by omega) ?_ | refine eq_u16 (by omega) ?_) | (with_reducible first | refine eq_rfl ?_ | refine ChkX.mk (by kernel_rfl) ?_ | refine code_q rfl ?_ | refine code_d (by decide +kernel) ?_ | refine end_go rfl ?_) | refine cx_tab (by assumption) rfl rfl rfl rfl rfl (by decide) rfl ?_ | refine cx_locS (by assumption) rfl (by decide) ?_ | refine cx_pureS (by assumption) ?_ | refine len_map ?_ | refine len_isl ?_ | refine el_of rfl rfl ?_ | refine del_own ?_ | refine del_own' rfl ?_ | refine as_go rfl ?_ | refine rd_go rfl ?_ | refine rg_end rfl ?_ | refine flat_ownX ?_ | refine EqLX.mk ?_ | ((with_reducible apply br_bq hQz) <;> (try intro hsp hQz)) | exact hQz.out)) <;> (try (conv => whnf))))) : p := h ⟨hq⟩
theorem plain_stA {L : List Vw} : Plain (stA L) := plain_agg fun x hx => by obtain rfl := List.mem_singleton.1 hx; exact plain_vs
structure LocU (f : Nat) (L : List Vw) (avs : List AV) (s : Sy) (r : AV) (s' : Sy) : Prop where
 out : LocC Tryz.prog G0 f (stA L :: .ptr 0 0 :: avs) [(0, .cells s.b)] 1 fun x h1 => x = r ∧ h1 = ⟨[(0, .cells s'.b)], 1⟩
 pa : ∀ x ∈ avs, Plain x
 pr : Plain r
theorem cx_u {f : Nat} {L : List Vw} {avs : List AV} {s s' : Sy} {a nx : Nat} {l : List (Nat × AObj)} {r : AV} {K : AV → Hp → Prop} (hc : LocU f L avs s r s')
  (hl0 : lk l a = some (.cells s.b)) (hlt : a < nx)
  (hk : filtK [a] l fun l2 => K r ⟨[(a, .cells s'.b)] ++ l2, nx⟩) : CallX Tryz.prog G0 (.fn f [] []) (stA L :: .ptr a 0 :: avs) ⟨l, nx⟩ K := by
 have e0 : enter [a] a 0 := rfl
 have k0 : back [a] nx 0 a := rfl
 refine cx_loc (l1 := [(a, .cells s'.b)]) [a] hc.out plainG rfl (.cons e0 hl0 (rnl_plain b_plain) .nil)
  ?_ (by intro x hx; simp only [List.mem_cons, List.not_mem_nil, or_false] at hx; omega) (rn_plain hc.pr)
  (.cons k0 (rnl_plain b_plain) .nil) hk
 simp only [List.nil_append, List.append_nil]
 exact ⟨rn_plain plain_stA, rn_ptr e0, rnl_plain hc.pa⟩
section
variable {L : List Vw} {t : TS} {s : Sy}
theorem end_tx {top : Bool} {h : Hp} {N0 : Nat} {x r : AV} (hx : x = r) (hp : Plain r) (h0 : lk h.l 0 = some (.cells (tabC 1 4 t.C))) (h1 : lk h.l 1 = some (.cells [.sl 2 0 t.n t.n 7, .sl 3 0 t.m t.m 3, .int .i64 (t.S.fr : Nat)])) (h2 : lk h.l 2 = some (.cells (cellsB t.n t.V t.W t.V3 t.V4 t.S.L t.S.N t.S.P))) (h3 : lk h.l 3 = some (.cells (endsB t.m t.S.A t.S.B t.S.C))) (h4 : lk h.l 4 = some (.maps (t.E.map keyE))) (h5 : lk h.l 5 = some (.cells s.a)) (hN0 : N0 ≤ 6 := by decide) :
  EndX top Tryz.prog N0 h x (fun r' h' => r' = r ∧ h' = ⟨rdN t s 0 1 2 3 4 5, 6⟩) := by
 subst hx
 exact end_TX (fun hs => wk_plain hs hp) h0 h1 h2 h3 h4 h5 hN0
theorem both_Read (h : TOk L t) (a at_ : Int) : ∃ (b e : Int), LocTX 17 [.int .i64 a, .int .i64 at_] t s (.tup [.int .u8 b, .int .i64 e]) s ∧ LocU 37 L [.int .i64 a, .int .i64 at_] s (.tup [.int .u8 b, .int .i64 e]) s := by
 obtain ⟨k, e, h1, h2⟩ := both_where h a at_ false
 have hr := p_read (s := s) (a := k)
 have hq := q_read (s := s) (a := k)
 by_cases he : e = 0
 ·refine ⟨(s.read k).1, (s.read k).2, ⟨loc_x hmix b17 rfl ?_, by simp [plain_int], plain_tui⟩, ⟨loc_x hmix b37 rfl ?_, by simp [plain_int], plain_tui⟩⟩
  ·unfold c17
   unfold rdN
   (refine wx_Dp ?_; repeat' (first | with_reducible refine And.intro ?_ ?_ | intro hsp))
   all_goals exact end_tx rfl plain_tui rfl rfl rfl rfl rfl rfl
  ·unfold c37
   (refine wx_Dp ?_; repeat' (first | with_reducible refine And.intro ?_ ?_ | intro hsp))
   all_goals exact end_s rfl plain_tui rfl b_plain
 ·refine ⟨0, e, ⟨loc_x hmix b17 rfl ?_, by simp [plain_int], plain_tui⟩, ⟨loc_x hmix b37 rfl ?_, by simp [plain_int], plain_tui⟩⟩
  ·unfold c17
   unfold rdN
   (refine wx_Dp ?_; repeat' (first | with_reducible refine And.intro ?_ ?_ | intro hsp))
   all_goals exact end_tx rfl plain_tui rfl rfl rfl rfl rfl rfl
  ·unfold c37
   (refine wx_Dp ?_; repeat' (first | with_reducible refine And.intro ?_ ?_ | intro hsp))
   all_goals exact end_s rfl plain_tui rfl b_plain
theorem both_Write (h : TOk L t) (a at_ b : Int) : ∃ (e : Int) (s' : Sy), (s' = s ∨ ∃ k, s' = (s.write k b).2) ∧ LocTX 16 [.int .i64 a, .int .i64 at_, .int .u8 b] t s (.int .i64 e) s' ∧ LocU 38 L [.int .i64 a, .int .i64 at_, .int .u8 b] s (.int .i64 e) s' := by
 obtain ⟨k, e, h1, h2⟩ := both_where h a at_ true
 have hr := p_write (s := s) (a := k) (b := b)
 have hq := q_write (s := s) (a := k) (b := b)
 by_cases he : e = 0
 ·refine ⟨(s.write k b).1, (s.write k b).2, .inr ⟨k, rfl⟩, ⟨loc_x hmix b16 rfl ?_, by simp [plain_int], plain_int⟩, ⟨loc_x hmix b38 rfl ?_, by simp [plain_int], plain_int⟩⟩
  ·unfold c16
   unfold rdN
   (refine wx_Dp ?_; repeat' (first | with_reducible refine And.intro ?_ ?_ | intro hsp))
   all_goals exact end_tx rfl plain_int rfl rfl rfl rfl rfl rfl
  ·unfold c38
   (refine wx_Dp ?_; repeat' (first | with_reducible refine And.intro ?_ ?_ | intro hsp))
   all_goals exact end_s rfl plain_int rfl b_plain
 ·refine ⟨e, s, .inl rfl, ⟨loc_x hmix b16 rfl ?_, by simp [plain_int], plain_int⟩, ⟨loc_x hmix b38 rfl ?_, by simp [plain_int], plain_int⟩⟩
  ·unfold c16
   unfold rdN
   (refine wx_Dp ?_; repeat' (first | with_reducible refine And.intro ?_ ?_ | intro hsp))
   all_goals exact end_tx rfl plain_int rfl rfl rfl rfl rfl rfl
  ·unfold c38
   (refine wx_Dp ?_; repeat' (first | with_reducible refine And.intro ?_ ?_ | intro hsp))
   all_goals exact end_s rfl plain_int rfl b_plain
end
end Go.Proofs.YtccbhbdbmmkcdaaGreat.Sh
