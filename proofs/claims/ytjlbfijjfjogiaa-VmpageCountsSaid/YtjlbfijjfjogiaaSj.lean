/-
  The state of both systems, plain; the program's calls over it.
-/
import Derived.Test.YtjlbfijjfjogiaaSi
set_option linter.unusedSimpArgs false
set_option linter.unusedVariables false
namespace Go.Pol
open Go.Am
/-- The state of a system: kinds, huge groups, bytes, refusals. -/
structure Sy where
  K : Nat → Int
  G : Nat → Bool
  B : Nat → Nat → Int
  l : List Rl
  C : Nat → Int
  H : Nat → Int
def Sy.M (s : Sy) (p : Nat) : Bool := s.G (p / 16)
@[irreducible] def Sy.P (s : Sy) : List AV := stA s.l s.C s.H
@[irreducible] def Sy.a (s : Sy) : List AV := sysB s.K s.M s.B (stA s.l s.C s.H)
@[irreducible] def Sy.b (s : Sy) : List AV := refK s.K s.G s.B (stA s.l s.C s.H)
structure GoodS (s : Sy) : Prop where
  hv : chkS s.l s.C s.H = 0
  kind : ∀ p, 0 ≤ s.K p ∧ s.K p ≤ 3
  huge : ∀ p, s.M p = true → s.K p = 2
  zero : ∀ p, s.K p ≠ 2 → s.B p = fun _ => 0
  cK : ∀ p, 1024 ≤ p → s.K p = 0
  cB : ∀ p j, 64 ≤ j → s.B p j = 0
/-- A call of a kind is counted. -/
def Sy.ref (s : Sy) (k : Nat) : Sy := { s with C := C1 s.C k, H := H1 s.l s.C s.H k }
def Sy.chg (s : Sy) (a n v w : Int) (k : Nat) : Int × Sy :=
  if n < 1 ∨ a < 0 ∨ 1024 ≤ a ∨ 1024 - a < n then (7, s) else
  if okR s.K s.M a.toNat n.toNat v then (if isR s.l s.C k then (60, s.ref k) else (0, { s.ref k with K := setR s.K a.toNat n.toNat w, B := setP s.B a.toNat n.toNat })) else (9, s)
def Sy.join (s : Sy) (a : Int) : Int × Sy :=
  if fst a then (if s.M a.toNat then (8, s) else if okC s.K a.toNat 16 then (if isR s.l s.C 5 then (60, s.ref 5) else (0, { s.ref 5 with G := updB s.G (a.toNat / 16) true })) else (9, s)) else (7, s)
def Sy.split (s : Sy) (a : Int) : Int × Sy :=
  if fst a then (if s.M a.toNat then (if isR s.l s.C 6 then (60, s.ref 6) else (0, { s.ref 6 with G := updB s.G (a.toNat / 16) false })) else (9, s)) else (7, s)
theorem chkS_ref {l : List Rl} {C H : Nat → Int} {k : Nat} (h : chkS l C H = 0) : chkS l (C1 C k) (H1 l C H k) = 0 := by
  obtain ⟨h1, h2, h3⟩ := chkS_ok h
  unfold chkS at h ⊢
  by_cases h4 : (chkP l).2 ≠ 0
  · rw [if_pos h4] at h; exact absurd h h4
  · rw [if_neg h4, if_pos]
    intro j hj
    obtain ⟨a1, a2, a3⟩ := h3 j hj
    unfold okK C1 H1
    by_cases h5 : C k < 1000000
    · simp only [if_pos h5]
      by_cases e : j = k
      · subst e
        have e1 : updI C j (C j + 1) j = C j + 1 := by simp [updI]
        rw [e1]
        refine ⟨by omega, by omega, ?_⟩
        rw [show (C j + 1).toNat = (C j).toNat + 1 by omega]
        show ((cnt l (j : Nat) (C j).toNat + (if refL l (j : Nat) (((C j).toNat + 1 : Nat) : Int) then 1 else 0) : Nat) : Int) = _
        rw [show (((C j).toNat + 1 : Nat) : Int) = C j + 1 by omega]
        cases refL l (j : Nat) (C j + 1) with
        | true => simp [updI]; omega
        | false => simp; omega
      · have e1 : updI C k (C k + 1) j = C j := by simp [updI, e]
        rw [e1]
        refine ⟨a1, a2, ?_⟩
        rw [a3]
        split
        · simp [updI, e]
        · rfl
    · simp only [if_neg h5]
      exact ⟨a1, a2, a3⟩
theorem good_ref {s : Sy} {k : Nat} (h : GoodS s) : GoodS (s.ref k) := ⟨chkS_ref h.hv, h.kind, h.huge, h.zero, h.cK, h.cB⟩
theorem good_chg {s : Sy} {a n v w : Int} {k : Nat} (h : GoodS s) (hw : 0 ≤ w ∧ w ≤ 3) : GoodS (s.chg a n v w k).2 := by
  unfold Sy.chg
  split
  · exact h
  · split
    · rename_i hr hok
      split
      · exact good_ref h
      · refine ⟨chkS_ref h.hv, fun p => ?_, fun p hp => ?_, fun p hp => ?_, fun p hp => ?_, fun p j hj => ?_⟩
        · show 0 ≤ setR s.K _ _ w p ∧ setR s.K _ _ w p ≤ 3
          unfold setR; split
          · exact hw
          · exact h.kind p
        · show setR s.K _ _ w p = 2
          unfold setR; split
          · rename_i hq
            have := (hok (p - a.toNat) (by omega)).2
            rw [show a.toNat + (p - a.toNat) = p by omega] at this
            rw [show s.M p = true from hp] at this; cases this
          · exact h.huge p hp
        · show setP s.B _ _ p = _
          have hp' : setR s.K a.toNat n.toNat w p ≠ 2 := hp
          unfold setR at hp'; unfold setP
          split at hp'
          · rename_i hq; rw [if_pos hq]
          · rename_i hq; rw [if_neg hq]; exact h.zero p hp'
        · show setR s.K _ _ w p = 0
          unfold setR; rw [if_neg (by omega)]; exact h.cK p hp
        · show setP s.B _ _ p j = 0
          unfold setP; split
          · rfl
          · exact h.cB p j hj
    · exact h
theorem fst_nat {a : Int} (h : fst a) : ∃ g : Nat, a = ((g * 16 : Nat) : Int) ∧ g < 64 := by
  obtain ⟨f1, f2, f3⟩ := h
  rw [Int.tmod_eq_emod_of_nonneg f1] at f3
  exact ⟨a.toNat / 16, by omega, by omega⟩
theorem good_join {s : Sy} {a : Int} (h : GoodS s) : GoodS (s.join a).2 := by
  unfold Sy.join
  split
  · rename_i hf
    split
    · exact h
    · split
      · rename_i hm hok
        split
        · exact good_ref h
        · refine ⟨chkS_ref h.hv, h.kind, fun p hp => ?_, h.zero, h.cK, h.cB⟩
          have hp' : updB s.G (a.toNat / 16) true (p / 16) = true := hp
          unfold updB at hp'
          split at hp'
          · rename_i e
            obtain ⟨g, rfl, hg⟩ := fst_nat hf
            simp only [Int.toNat_natCast] at *
            have := hok (p - g * 16) (by omega)
            rw [show g * 16 + (p - g * 16) = p by omega] at this
            exact this
          · exact h.huge p hp'
      · exact h
  · exact h
theorem good_split {s : Sy} {a : Int} (h : GoodS s) : GoodS (s.split a).2 := by
  unfold Sy.split
  split
  · split
    · split
      · exact good_ref h
      · refine ⟨chkS_ref h.hv, h.kind, fun p hp => ?_, h.zero, h.cK, h.cB⟩
        have hp' : updB s.G (a.toNat / 16) false (p / 16) = true := hp
        unfold updB at hp'
        split at hp'
        · cases hp'
        · exact h.huge p hp'
    · exact h
  · exact h
theorem updB_M {G : Nat → Bool} {g : Nat} {b : Bool} : (fun p => updB G g b (p / 16)) = setM (fun p => G (p / 16)) (g * 16) 16 b := by
  funext p; unfold updB setM
  by_cases h : p / 16 = g
  · rw [if_pos h, if_pos (by omega)]
  · rw [if_neg h, if_neg (by omega)]
theorem setM_same {M : Nat → Bool} {a n : Nat} {b : Bool} (h : ∀ i, i < n → M (a + i) = b) : setM M a n b = M := by
  funext p; unfold setM
  split
  · rename_i hq
    have := h (p - a) (by omega)
    rw [show a + (p - a) = p by omega] at this; exact this.symm
  · rfl
end Go.Pol
namespace Go.Proofs.Ytjlbfijjfjogiaa
open Go Go.Am Go.Pol
section
variable {s : Sy} {a n : Int}
theorem p_make {v w : Int} {k : Nat} (h : GoodS s) (hk : k < 7) : LocQ s.a (s.chg a n v w k).2.a v w a n (k : Nat) (.int .i64 (s.chg a n v w k).1) := by
  have pa : ∀ x ∈ s.a, Plain x := by unfold Sy.a; exact sys_plain stA_plain
  have pb : ∀ x ∈ (s.chg a n v w k).2.a, Plain x := by unfold Sy.a; exact sys_plain stA_plain
  refine LocQ.mk ?_ pa pb plain_int
  unfold Sy.chg
  by_cases h1 : n < 1 ∨ a < 0 ∨ 1024 ≤ a ∨ 1024 - a < n
  · rw [if_pos h1]; unfold Sy.a; exact k_make_range h1
  · rw [if_neg h1]
    obtain ⟨a', rfl⟩ : ∃ a' : Nat, a = (a' : Nat) := ⟨a.toNat, by omega⟩
    obtain ⟨n', rfl⟩ : ∃ n' : Nat, n = (n' : Nat) := ⟨n.toNat, by omega⟩
    simp only [Int.toNat_natCast]
    by_cases h2 : okR s.K s.M a' n' v
    · rw [if_pos h2]
      cases h3 : isR s.l s.C k with
      | true => rw [if_pos rfl]; unfold Sy.a Sy.ref; exact k_make_ref h.hv hk (by omega) (by omega) h2 h3
      | false =>
        rw [if_neg (by simp)]; unfold Sy.a Sy.ref
        have := k_make_ok (w := w) (B := s.B) h.hv hk (by omega) (by omega) h2 h3
        rw [setM_same fun i hi => (h2 i hi).2] at this
        exact this
    · rw [if_neg h2]; unfold Sy.a; exact k_make_down (by omega) (by omega) h2
theorem p_reserve (h : GoodS s) : LocS 36 [.int .i64 a, .int .i64 n] s.a (.int .i64 (s.chg a n 0 1 0).1) (s.chg a n 0 1 0).2.a := k_reserve (p_make h (by decide))
theorem p_release (h : GoodS s) : LocS 35 [.int .i64 a, .int .i64 n] s.a (.int .i64 (s.chg a n 1 0 1).1) (s.chg a n 1 0 1).2.a := k_release (p_make h (by decide))
theorem p_commit (h : GoodS s) : LocS 30 [.int .i64 a, .int .i64 n] s.a (.int .i64 (s.chg a n 1 2 2).1) (s.chg a n 1 2 2).2.a := k_commit (p_make h (by decide))
theorem p_decommit (h : GoodS s) : LocS 29 [.int .i64 a, .int .i64 n] s.a (.int .i64 (s.chg a n 2 1 3).1) (s.chg a n 2 1 3).2.a := k_decommit (p_make h (by decide))
theorem p_protect (h : GoodS s) {b : Bool} : LocS 34 [.int .i64 a, .int .i64 n, .bool b] s.a (.int .i64 (if b then s.chg a n 1 3 4 else s.chg a n 3 1 4).1) (if b then s.chg a n 1 3 4 else s.chg a n 3 1 4).2.a := by
  cases b with
  | true => exact k_protect_t (p_make h (by decide))
  | false => exact k_protect_f (p_make h (by decide))
theorem p_join (h : GoodS s) : LocS 51 [.int .i64 a] s.a (.int .i64 (s.join a).1) (s.join a).2.a := by
  unfold Sy.join
  by_cases h1 : fst a
  · rw [if_pos h1]
    obtain ⟨g, rfl, hg⟩ := fst_nat h1
    simp only [Int.toNat_natCast]
    cases h2 : s.M (g * 16) with
    | true => rw [if_pos rfl]; unfold Sy.a; exact k_join_twice stA_plain h1 h2
    | false =>
      rw [if_neg (by simp)]
      by_cases h3 : okC s.K (g * 16) 16
      · rw [if_pos h3]
        cases h4 : isR s.l s.C 5 with
        | true => rw [if_pos rfl]; unfold Sy.a Sy.ref; exact k_join stA_plain h1 h2 (k_makeJ_ref (n := 16) h.hv (by decide) (by omega) (by omega) h3 h4)
        | false =>
          rw [if_neg (by simp)]; unfold Sy.a Sy.ref
          have := k_join stA_plain h1 h2 (k_makeJ_ok (n := 16) (B := s.B) (M := s.M) h.hv (by decide) (by omega) (by omega) h3 h4)
          rw [show g * 16 / 16 = g by omega]
          have e : Sy.M { K := s.K, G := updB s.G g true, B := s.B, l := s.l, C := C1 s.C 5, H := H1 s.l s.C s.H 5 } = setM s.M (g * 16) 16 true := updB_M
          rw [e]; exact this
      · rw [if_neg h3]; unfold Sy.a; exact k_join stA_plain h1 h2 (k_makeJ_down (n := 16) (by omega) (by omega) h3)
  · rw [if_neg h1]; unfold Sy.a; exact k_join_range stA_plain h1
theorem okH_M {g : Nat} : okH s.M (g * 16) 16 ↔ s.M (g * 16) = true := by
  constructor
  · intro h; exact h 0 (by decide)
  · intro h i hi
    have e : (g * 16 + i) / 16 = g * 16 / 16 := by omega
    show s.G ((g * 16 + i) / 16) = true
    rw [e]; exact h
theorem p_split (h : GoodS s) : LocS 33 [.int .i64 a] s.a (.int .i64 (s.split a).1) (s.split a).2.a := by
  unfold Sy.split
  by_cases h1 : fst a
  · rw [if_pos h1]
    obtain ⟨g, rfl, hg⟩ := fst_nat h1
    simp only [Int.toNat_natCast]
    cases h2 : s.M (g * 16) with
    | true =>
      rw [if_pos rfl]
      have h3 := okH_M.2 h2
      cases h4 : isR s.l s.C 6 with
      | true => rw [if_pos rfl]; unfold Sy.a Sy.ref; exact k_split stA_plain h1 (k_makeS_ref (n := 16) h.hv (by decide) (by omega) (by omega) h3 h4)
      | false =>
        rw [if_neg (by simp)]; unfold Sy.a Sy.ref
        have := k_split stA_plain h1 (k_makeS_ok (n := 16) (B := s.B) (M := s.M) (K := s.K) h.hv (by decide) (by omega) (by omega) h3 h4)
        rw [show g * 16 / 16 = g by omega]
        have e : Sy.M { K := s.K, G := updB s.G g false, B := s.B, l := s.l, C := C1 s.C 6, H := H1 s.l s.C s.H 6 } = setM s.M (g * 16) 16 false := updB_M
        rw [e]; exact this
    | false =>
      rw [if_neg (by simp)]; unfold Sy.a
      exact k_split stA_plain h1 (k_makeS_down (n := 16) (by omega) (by omega) fun h => by rw [okH_M.1 h] at h2; cases h2)
  · rw [if_neg h1]; unfold Sy.a; exact k_split_range stA_plain h1
end
end Go.Proofs.Ytjlbfijjfjogiaa
