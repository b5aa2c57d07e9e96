/-
  long and made of the laws.
  The example of the document.
  VmpageCounts.
-/
import Derived.Test.YtjlbfijjfjogiaaVmH
import Derived.Test.YtjlbfijjfjogiaaTl
import Derived.Test.YtjlbfijjfjogiaaVmG
set_option linter.unusedSimpArgs false
set_option linter.unusedVariables false
namespace Go.Pol
open Go.Am
def dA : Ac := ⟨0, 0, 0, 0, 0, []⟩
def isLong (p : List Rl) (l : List Ac) : Prop := 60 < p.length ∨ ∃ x, x ∈ l ∧ 60 < x.l.length
/-- The state behind some acts (without saving and loading). -/
def Sy.one (s : Sy) (x : Ac) : Sy := if x.w % 19 = 17 then s else s.step x
def Sy.run (s : Sy) : List Ac → Sy
  | [] => s
  | x :: l => (s.one x).run l
end Go.Pol
namespace Go.Proofs.Ytjlbfijjfjogiaa
open Go Go.Am Go.Pol
section
variable {p : List Rl} {l : List Ac} {i : Int}
/-- A call that makes a system. -/
structure LocM (f : Nat) (avs : List AV) (ds : List AV) : Prop where
  out : LocC Try.prog G0 f avs [] 0 fun x h => x = .tup [.ptr 0 0, .bool true] ∧ h = ⟨[(0, .cells ds)], 1⟩
  pd : ∀ x ∈ ds, Plain x
  pa : ∀ x ∈ avs, Plain x
theorem LocM.weak {f : Nat} {avs avs' ds : List AV} (hc : LocM f avs ds) (hw : WkAs avs' avs) (hp : ∀ x ∈ avs', Plain x) : LocM f avs' ds :=
  LocM.mk (hc.out.weak (WkAs.args hw)) hc.pd hp
end
end Go.Proofs.Ytjlbfijjfjogiaa
namespace Go.Pol
open Go.Am
def w0 : Sy := Sy.new []
def w1 : Sy := (w0.chg 0 4 0 1 0).2
def w2 : Sy := (w1.chg 1 2 1 2 2).2
def w3 : Sy := (w2.chg 0 2 1 2 2).2
def w4 : Sy := (w3.write 64 7).2
def w5 : Sy := (w4.chg 0 1 1 3 4).2
def w6 : Sy := (w5.chg 0 4 1 0 1).2
def w7 : Sy := (w6.chg 1 2 2 1 3).2
def w8 : Sy := (w7.chg 1 1 1 2 2).2
theorem g0 : GoodS w0 := good_new rfl
theorem g1 : GoodS w1 := good_chg g0 (by decide)
theorem g2 : GoodS w2 := good_chg g1 (by decide)
theorem g3 : GoodS w3 := good_chg g2 (by decide)
theorem g4 : GoodS w4 := good_write g3
theorem g5 : GoodS w5 := good_chg g4 (by decide)
theorem g6 : GoodS w6 := good_chg g5 (by decide)
theorem g7 : GoodS w7 := good_chg g6 (by decide)
theorem g8 : GoodS w8 := good_chg g7 (by decide)
theorem f1 : (w0.chg 0 4 0 1 0).1 = 0 := by decide +kernel
theorem f2 : (w1.chg 1 2 1 2 2).1 = 0 := by decide +kernel
theorem f3 : (w2.chg 0 2 1 2 2).1 = 9 := by decide +kernel
theorem f4 : (w3.write 64 7).1 = 0 := by decide +kernel
theorem f5 : (w4.chg 0 1 1 3 4).1 = 0 := by decide +kernel
theorem f6 : (w5.chg 0 4 1 0 1).1 = 9 := by decide +kernel
theorem f7 : (w6.chg 1 2 2 1 3).1 = 0 := by decide +kernel
theorem f8 : (w7.chg 1 1 1 2 2).1 = 0 := by decide +kernel
theorem fa : w4.read 64 = (7, 0) := by decide +kernel
theorem fb : w4.read 65 = (0, 0) := by decide +kernel
theorem fc : w4.read 63 = (0, 61) := by decide +kernel
theorem fd : w8.read 64 = (0, 0) := by decide +kernel
theorem fe : cntK w8.K 0 1024 = 1020 ∧ cntK w8.K 1 1024 = 2 ∧ cntK w8.K 2 1024 = 1 ∧ cntK w8.K 3 1024 = 1 ∧ cntG w8.G 64 = 0 := by decide +kernel
theorem ff : w8.counts = [.int .i64 1020, .int .i64 2, .int .i64 1, .int .i64 1, .int .i64 0] := by
  unfold Sy.counts
  obtain ⟨h1, h2, h3, h4, h5⟩ := fe
  rw [h1, h2, h3, h4, h5]; rfl
end Go.Pol
namespace Go.Proofs.Ytjlbfijjfjogiaa
open Go Go.Am Go.Pol
theorem wub {p q : Prop} (hq : q) (h : HidP q → p := by (intro hQz; ((repeat' ((try (conv => whnf)); first | (with_reducible first | refine run_cons ?_ | refine runq_cons ?_ | refine code_seq ?_ | refine code_reg ?_ | refine code_cond ?_ | refine run_nil ?_ | refine runq_nil ?_ | refine rund_op rfl ?_ | refine rund_nil ?_ | refine code_block ?_ | refine code_skip ?_ | refine code_exit ?_ | refine code_ret ?_ | refine code_range ?_ | refine rund_fast (by decide +kernel) ?_ | refine rund_slow (by decide +kernel) ?_ | refine br_tt ?_ | refine br_ff ?_ | refine br_n ?_ | refine br_and ?_ | refine br_or ?_ | refine br_t (by assumption) ?_ | refine br_f (by assumption) ?_ | refine eq_i64 (by omega) ?_ | refine el_tn ?_) | ((with_reducible refine br_dt ?_ ?_); focus omega) | ((with_reducible refine br_df ?_ ?_); focus omega) | ((with_reducible apply br_dq hQz) <;> (try intro hsp hQz)) | ((with_reducible refine ck_x ?_ ?_); focus (first | omega | rfl | assumption | decide | (simp only [List.length_map, List.length_cons, List.length_nil]; omega))) | (with_reducible first | refine eq_tn ?_ | refine eq_tn1 ?_ | refine eq_tn2 ?_ | refine eq_m1 ?_ | refine eq_m2 ?_ | refine eq_zm ?_ | refine eq_z ?_ | refine len_map ?_ | refine len_sl ?_ | refine len_nils ?_ | refine len_own' ?_ | refine len_isl ?_ | refine eq_u8 (by omega) ?_ | refine eq_u16 (by omega) ?_) | (with_reducible first | refine eq_rfl ?_ | refine ChkX.mk (by kernel_rfl) ?_ | refine code_q rfl ?_ | refine code_d (by decide +kernel) ?_ | refine end_go rfl ?_) | refine cx_locS (by assumption) rfl (by omega) ?_ | refine cx_locN (by assumption) ?_ | refine len_map ?_ | refine len_isl ?_ | refine el_of rfl rfl ?_ | refine del_own ?_ | refine del_own' rfl ?_ | refine as_go rfl ?_ | refine rd_go rfl ?_ | refine rg_end rfl ?_ | refine flat_ownX ?_ | refine EqLX.mk ?_ | ((with_reducible apply br_bq hQz) <;> (try intro hsp hQz)) | exact hQz.out)) <;> (try (conv => whnf))))) : p := h ⟨hq⟩
set_option maxHeartbeats 1600000 in
theorem k_shown : PureS 11 [] (.bool true) := by
  have z0 := n_new
  have z1 : LocS 36 [.int .i64 0, .int .i64 4] w0.a (.int .i64 0) w1.a := by have h := p_reserve (a := 0) (n := 4) g0; rw [f1] at h; exact h
  have z2 : LocS 30 [.int .i64 1, .int .i64 2] w1.a (.int .i64 0) w2.a := by have h := p_commit (a := 1) (n := 2) g1; rw [f2] at h; exact h
  have z3 : LocS 30 [.int .i64 0, .int .i64 2] w2.a (.int .i64 9) w3.a := by have h := p_commit (a := 0) (n := 2) g2; rw [f3] at h; exact h
  have z4 : LocS 28 [.int .i64 64, .int .u8 7] w3.a (.int .i64 0) w4.a := by have h := p_write (s := w3) (a := 64) (b := 7); rw [f4] at h; exact h
  have z5 : LocS 34 [.int .i64 0, .int .i64 1, .bool true] w4.a (.int .i64 0) w5.a := by have h := p_protect (a := 0) (n := 1) g4 (b := true); rw [if_pos rfl, f5] at h; exact h
  have z6 : LocS 35 [.int .i64 0, .int .i64 4] w5.a (.int .i64 9) w6.a := by have h := p_release (a := 0) (n := 4) g5; rw [f6] at h; exact h
  have z7 : LocS 29 [.int .i64 1, .int .i64 2] w6.a (.int .i64 0) w7.a := by have h := p_decommit (a := 1) (n := 2) g6; rw [f7] at h; exact h
  have z8 : LocS 30 [.int .i64 1, .int .i64 1] w7.a (.int .i64 0) w8.a := by have h := p_commit (a := 1) (n := 1) g7; rw [f8] at h; exact h
  have za : LocS 16 [.int .i64 64] w4.a (.tup [.int .u8 7, .int .i64 0]) w4.a := by have h := p_read (s := w4) (a := 64); rw [fa] at h; exact h
  have zb : LocS 16 [.int .i64 65] w4.a (.tup [.int .u8 0, .int .i64 0]) w4.a := by have h := p_read (s := w4) (a := 65); rw [fb] at h; exact h
  have zc : LocS 16 [.int .i64 63] w4.a (.tup [.int .u8 0, .int .i64 61]) w4.a := by have h := p_read (s := w4) (a := 63); rw [fc] at h; exact h
  have zd : LocS 16 [.int .i64 64] w8.a (.tup [.int .u8 0, .int .i64 0]) w8.a := by have h := p_read (s := w8) (a := 64); rw [fd] at h; exact h
  have ze : LocS 18 [] w8.a (.tup [.agg [.int .i64 1020, .int .i64 2, .int .i64 1, .int .i64 1, .int .i64 0], .int .i64 0]) w8.a := by have h := p_counts g8; rw [ff] at h; exact h
  change LocN _ _ _ w0.a at z0
  generalize w0.a = y0 at *
  generalize w1.a = y1 at *
  generalize w2.a = y2 at *
  generalize w3.a = y3 at *
  generalize w4.a = y4 at *
  generalize w5.a = y5 at *
  generalize w6.a = y6 at *
  generalize w7.a = y7 at *
  generalize w8.a = y8 at *
  refine PureS.mk (pure_x hmix b11 plainG trivial plain_bool rfl ?_)
  unfold c11
  (refine wub ?_; repeat' (first | with_reducible refine And.intro ?_ ?_ | intro hsp))
  all_goals exact end_bool rfl
end Go.Proofs.Ytjlbfijjfjogiaa
namespace Go.Pol
open Go.Am
def cntQ (G : Nat → Bool) : Nat → Nat
  | 0 => 0
  | n + 1 => cntQ G n + if G (n / 16) = true then 1 else 0
end Go.Pol
namespace Go.Proofs.Ytjlbfijjfjogiaa
open Go Go.Am Go.Pol
section
variable {p : List Rl} {l : List Ac}
end
end Go.Proofs.Ytjlbfijjfjogiaa
