/-
  Join and Split of the program.
  make for Join and Split.
  Join and Split of the program.
  The state of both systems, plain; the program's calls over it.
-/
import Derived.Test.YtjlbfijjfjogiaaVmB
set_option linter.unusedSimpArgs false
set_option linter.unusedVariables false
namespace Go.Pol
/-- Are these pages committed? -/
def okC (K : Nat → Int) (a n : Nat) : Prop := ∀ i, i < n → K (a + i) = 2
instance (K : Nat → Int) (a n : Nat) : Decidable (okC K a n) := by unfold okC; infer_instance
/-- Are these pages huge? -/
def okH (M : Nat → Bool) (a n : Nat) : Prop := ∀ i, i < n → M (a + i) = true
instance (M : Nat → Bool) (a n : Nat) : Decidable (okH M a n) := by unfold okH; infer_instance
end Go.Pol
namespace Go.Proofs.Ytjlbfijjfjogiaa
open Go Go.Am Go.Pol
section
variable {K : Nat → Int} {M G : Nat → Bool} {B : Nat → Nat → Int} {l : List Rl} {C H : Nat → Int}
theorem plain_fn0 {f : Nat} : Plain (.fn f [] []) := plain_fn (by simp) (by simp)
theorem plain_3f {a n : Int} {f : Nat} : ∀ x ∈ [AV.int .i64 a, .int .i64 n, .fn f [] []], Plain x := fun x hx => by
  rcases List.mem_cons.1 hx with rfl | hx
  · exact plain_int
  · exact plain_2 plain_int plain_fn0 x hx
end
end Go.Proofs.Ytjlbfijjfjogiaa
namespace Go.Proofs.Ytjlbfijjfjogiaa
open Go Go.Am Go.Pol
section
variable {K : Nat → Int} {M G : Nat → Bool} {B : Nat → Nat → Int} {l : List Rl} {C H : Nat → Int}
end
end Go.Proofs.Ytjlbfijjfjogiaa
namespace Go.Pol
/-- Is that the first page of a group? -/
def fst (x : Int) : Prop := 0 ≤ x ∧ x < 1024 ∧ x.tmod 16 = 0
instance (x : Int) : Decidable (fst x) := by unfold fst; infer_instance
end Go.Pol
namespace Go.Proofs.Ytjlbfijjfjogiaa
open Go Go.Am Go.Pol
theorem wf {p q : Prop} (hq : q) (h : HidP q → p := by (intro hQz; ((repeat' ((try (conv => whnf)); first | (with_reducible first | refine run_cons ?_ | refine runq_cons ?_ | refine code_seq ?_ | refine code_reg ?_ | refine code_cond ?_ | refine run_nil ?_ | refine runq_nil ?_ | refine rund_op rfl ?_ | refine rund_nil ?_ | refine code_block ?_ | refine code_skip ?_ | refine code_exit ?_ | refine code_ret ?_ | refine code_range ?_ | refine rund_fast (by decide +kernel) ?_ | refine rund_slow (by decide +kernel) ?_ | refine br_tt ?_ | refine br_ff ?_ | refine br_n ?_ | refine br_and ?_ | refine br_or ?_ | refine br_t (by assumption) ?_ | refine br_f (by assumption) ?_ | refine eq_i64 (by omega) ?_ | refine el_tn ?_) | ((with_reducible refine br_dt ?_ ?_); focus omega) | ((with_reducible refine br_df ?_ ?_); focus omega) | ((with_reducible apply br_dq hQz) <;> (try intro hsp hQz)) | ((with_reducible refine ck_x ?_ ?_); focus (first | omega | rfl | assumption | decide | (simp only [List.length_map, List.length_cons, List.length_nil]; omega))) | (with_reducible first | refine eq_tn ?_ | refine eq_tn1 ?_ | refine eq_tn2 ?_ | refine eq_m1 ?_ | refine eq_m2 ?_ | refine eq_zm ?_ | refine eq_z ?_ | refine len_map ?_ | refine len_sl ?_ | refine len_nils ?_ | refine len_own' ?_ | refine len_isl ?_ | refine eq_u8 (by omega) ?_ | refine eq_u16 (by omega) ?_) | refine nthK_of sys_made ?_ | refine nthK_of (by with_reducible assumption) ?_ | refine eq_of (by with_reducible assumption) ?_ | (with_reducible first | refine eq_rfl ?_ | refine ChkX.mk (by kernel_rfl) ?_ | refine code_q rfl ?_ | refine code_d (by decide +kernel) ?_ | refine end_go rfl ?_) | refine cx_pureS (by assumption) ?_ | refine dcx_pureS (by assumption) ?_ | refine qcx_pureS (by assumption) ?_ | refine cx_locS (by assumption) rfl (by omega) ?_ | (refine cx_in hmix b47 rfl ?_; unfold c47) | refine len_map ?_ | refine len_isl ?_ | refine el_of rfl rfl ?_ | refine del_own ?_ | refine del_own' rfl ?_ | refine as_go rfl ?_ | refine rd_go rfl ?_ | refine rg_end rfl ?_ | refine flat_ownX ?_ | refine EqLX.mk ?_ | ((with_reducible apply br_bq hQz) <;> (try intro hsp hQz)) | exact hQz.out)) <;> (try (conv => whnf))))) : p := h ⟨hq⟩
section
variable {K : Nat → Int} {M G : Nat → Bool} {B : Nat → Nat → Int} {P ds : List AV} {r : AV}
theorem k_first (x : Int) : PureS 39 [.int .i64 x] (.bool (decide (fst x))) := by
  refine PureS.mk (pure_x hmix b39 plainG ⟨plain_int, trivial⟩ plain_bool rfl ?_)
  unfold c39
  (refine wf ?_; repeat' (first | with_reducible refine And.intro ?_ ?_ | intro hsp))
  all_goals exact end_bool (by simp [fst, *])
end
end Go.Proofs.Ytjlbfijjfjogiaa
namespace Go.Pol
open Go.Am
/-- The state of a system: kinds, huge groups, bytes, refusals. -/
structure Sy where
  K : Nat → Int
  G : Nat → Bool
  B : Nat → Nat → Int
  l : List Rl
  C : Nat → Int
  H : Nat → Int
def Sy.M (s : Sy) (p : Nat) : Bool := s.G (p / 16)
@[irreducible] def Sy.P (s : Sy) : List AV := stA s.l s.C s.H
@[irreducible] def Sy.a (s : Sy) : List AV := sysB s.K s.M s.B (stA s.l s.C s.H)
@[irreducible] def Sy.b (s : Sy) : List AV := refK s.K s.G s.B (stA s.l s.C s.H)
structure GoodS (s : Sy) : Prop where
  hv : chkS s.l s.C s.H = 0
  kind : ∀ p, 0 ≤ s.K p ∧ s.K p ≤ 3
  huge : ∀ p, s.M p = true → s.K p = 2
  zero : ∀ p, s.K p ≠ 2 → s.B p = fun _ => 0
  cK : ∀ p, 1024 ≤ p → s.K p = 0
  cB : ∀ p j, 64 ≤ j → s.B p j = 0
/-- A call of a kind is counted. -/
def Sy.ref (s : Sy) (k : Nat) : Sy := { s with C := C1 s.C k, H := H1 s.l s.C s.H k }
def Sy.chg (s : Sy) (a n v w : Int) (k : Nat) : Int × Sy :=
  if n < 1 ∨ a < 0 ∨ 1024 ≤ a ∨ 1024 - a < n then (7, s) else
  if okR s.K s.M a.toNat n.toNat v then (if isR s.l s.C k then (60, s.ref k) else (0, { s.ref k with K := setR s.K a.toNat n.toNat w, B := setP s.B a.toNat n.toNat })) else (9, s)
def Sy.join (s : Sy) (a : Int) : Int × Sy :=
  if fst a then (if s.M a.toNat then (8, s) else if okC s.K a.toNat 16 then (if isR s.l s.C 5 then (60, s.ref 5) else (0, { s.ref 5 with G := updB s.G (a.toNat / 16) true })) else (9, s)) else (7, s)
def Sy.split (s : Sy) (a : Int) : Int × Sy :=
  if fst a then (if s.M a.toNat then (if isR s.l s.C 6 then (60, s.ref 6) else (0, { s.ref 6 with G := updB s.G (a.toNat / 16) false })) else (9, s)) else (7, s)
theorem chkS_ref {l : List Rl} {C H : Nat → Int} {k : Nat} (h : chkS l C H = 0) : chkS l (C1 C k) (H1 l C H k) = 0 := by
  obtain ⟨h1, h2, h3⟩ := chkS_ok h
  unfold chkS at h ⊢
  by_cases h4 : (chkP l).2 ≠ 0
  · rw [if_pos h4] at h; exact absurd h h4
  · rw [if_neg h4, if_pos]
    intro j hj
    obtain ⟨a1, a2, a3⟩ := h3 j hj
    unfold okK C1 H1
    by_cases h5 : C k < 1000000
    · simp only [if_pos h5]
      by_cases e : j = k
      · subst e
        have e1 : updI C j (C j + 1) j = C j + 1 := by simp [updI]
        rw [e1]
        refine ⟨by omega, by omega, ?_⟩
        rw [show (C j + 1).toNat = (C j).toNat + 1 by omega]
        show ((cnt l (j : Nat) (C j).toNat + (if refL l (j : Nat) (((C j).toNat + 1 : Nat) : Int) then 1 else 0) : Nat) : Int) = _
        rw [show (((C j).toNat + 1 : Nat) : Int) = C j + 1 by omega]
        cases refL l (j : Nat) (C j + 1) with
        | true => simp [updI]; omega
        | false => simp; omega
      · have e1 : updI C k (C k + 1) j = C j := by simp [updI, e]
        rw [e1]
        refine ⟨a1, a2, ?_⟩
        rw [a3]
        split
        · simp [updI, e]
        · rfl
    · simp only [if_neg h5]
      exact ⟨a1, a2, a3⟩
theorem good_ref {s : Sy} {k : Nat} (h : GoodS s) : GoodS (s.ref k) := ⟨chkS_ref h.hv, h.kind, h.huge, h.zero, h.cK, h.cB⟩
theorem good_chg {s : Sy} {a n v w : Int} {k : Nat} (h : GoodS s) (hw : 0 ≤ w ∧ w ≤ 3) : GoodS (s.chg a n v w k).2 := by
  unfold Sy.chg
  split
  · exact h
  · split
    · rename_i hr hok
      split
      · exact good_ref h
      · refine ⟨chkS_ref h.hv, fun p => ?_, fun p hp => ?_, fun p hp => ?_, fun p hp => ?_, fun p j hj => ?_⟩
        · show 0 ≤ setR s.K _ _ w p ∧ setR s.K _ _ w p ≤ 3
          unfold setR; split
          · exact hw
          · exact h.kind p
        · show setR s.K _ _ w p = 2
          unfold setR; split
          · rename_i hq
            have := (hok (p - a.toNat) (by omega)).2
            rw [show a.toNat + (p - a.toNat) = p by omega] at this
            rw [show s.M p = true from hp] at this; cases this
          · exact h.huge p hp
        · show setP s.B _ _ p = _
          have hp' : setR s.K a.toNat n.toNat w p ≠ 2 := hp
          unfold setR at hp'; unfold setP
          split at hp'
          · rename_i hq; rw [if_pos hq]
          · rename_i hq; rw [if_neg hq]; exact h.zero p hp'
        · show setR s.K _ _ w p = 0
          unfold setR; rw [if_neg (by omega)]; exact h.cK p hp
        · show setP s.B _ _ p j = 0
          unfold setP; split
          · rfl
          · exact h.cB p j hj
    · exact h
theorem fst_nat {a : Int} (h : fst a) : ∃ g : Nat, a = ((g * 16 : Nat) : Int) ∧ g < 64 := by
  obtain ⟨f1, f2, f3⟩ := h
  rw [Int.tmod_eq_emod_of_nonneg f1] at f3
  exact ⟨a.toNat / 16, by omega, by omega⟩
theorem setM_same {M : Nat → Bool} {a n : Nat} {b : Bool} (h : ∀ i, i < n → M (a + i) = b) : setM M a n b = M := by
  funext p; unfold setM
  split
  · rename_i hq
    have := h (p - a) (by omega)
    rw [show a + (p - a) = p by omega] at this; exact this.symm
  · rfl
end Go.Pol
namespace Go.Proofs.Ytjlbfijjfjogiaa
open Go Go.Am Go.Pol
section
variable {s : Sy} {a n : Int}
theorem p_make {v w : Int} {k : Nat} (h : GoodS s) (hk : k < 7) : LocQ s.a (s.chg a n v w k).2.a v w a n (k : Nat) (.int .i64 (s.chg a n v w k).1) := by
  have pa : ∀ x ∈ s.a, Plain x := by unfold Sy.a; exact sys_plain stA_plain
  have pb : ∀ x ∈ (s.chg a n v w k).2.a, Plain x := by unfold Sy.a; exact sys_plain stA_plain
  refine LocQ.mk ?_ pa pb plain_int
  unfold Sy.chg
  by_cases h1 : n < 1 ∨ a < 0 ∨ 1024 ≤ a ∨ 1024 - a < n
  · rw [if_pos h1]; unfold Sy.a; exact k_make_range h1
  · rw [if_neg h1]
    obtain ⟨a', rfl⟩ : ∃ a' : Nat, a = (a' : Nat) := ⟨a.toNat, by omega⟩
    obtain ⟨n', rfl⟩ : ∃ n' : Nat, n = (n' : Nat) := ⟨n.toNat, by omega⟩
    simp only [Int.toNat_natCast]
    by_cases h2 : okR s.K s.M a' n' v
    · rw [if_pos h2]
      cases h3 : isR s.l s.C k with
      | true => rw [if_pos rfl]; unfold Sy.a Sy.ref; exact k_make_ref h.hv hk (by omega) (by omega) h2 h3
      | false =>
        rw [if_neg (by simp)]; unfold Sy.a Sy.ref
        have := k_make_ok (w := w) (B := s.B) h.hv hk (by omega) (by omega) h2 h3
        rw [setM_same fun i hi => (h2 i hi).2] at this
        exact this
    · rw [if_neg h2]; unfold Sy.a; exact k_make_down (by omega) (by omega) h2
theorem p_reserve (h : GoodS s) : LocS 36 [.int .i64 a, .int .i64 n] s.a (.int .i64 (s.chg a n 0 1 0).1) (s.chg a n 0 1 0).2.a := k_reserve (p_make h (by decide))
theorem p_release (h : GoodS s) : LocS 35 [.int .i64 a, .int .i64 n] s.a (.int .i64 (s.chg a n 1 0 1).1) (s.chg a n 1 0 1).2.a := k_release (p_make h (by decide))
theorem p_commit (h : GoodS s) : LocS 30 [.int .i64 a, .int .i64 n] s.a (.int .i64 (s.chg a n 1 2 2).1) (s.chg a n 1 2 2).2.a := k_commit (p_make h (by decide))
theorem p_decommit (h : GoodS s) : LocS 29 [.int .i64 a, .int .i64 n] s.a (.int .i64 (s.chg a n 2 1 3).1) (s.chg a n 2 1 3).2.a := k_decommit (p_make h (by decide))
theorem p_protect (h : GoodS s) {b : Bool} : LocS 34 [.int .i64 a, .int .i64 n, .bool b] s.a (.int .i64 (if b then s.chg a n 1 3 4 else s.chg a n 3 1 4).1) (if b then s.chg a n 1 3 4 else s.chg a n 3 1 4).2.a := by
  cases b with
  | true => exact k_protect_t (p_make h (by decide))
  | false => exact k_protect_f (p_make h (by decide))
end
end Go.Proofs.Ytjlbfijjfjogiaa
