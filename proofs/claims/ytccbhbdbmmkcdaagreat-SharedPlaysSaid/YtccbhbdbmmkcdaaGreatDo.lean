/-
 What a call does, of both: the same answer, and the same views.
-/
import Derived.Test.YtccbhbdbmmkcdaaGreatYq
import Derived.Test.YtccbhbdbmmkcdaaGreatBj
import Derived.Test.YtccbhbdbmmkcdaaGreatBw
set_option linter.unusedSimpArgs false
set_option linter.unusedVariables false
namespace Go.Proofs.YtccbhbdbmmkcdaaGreat.Sh
open Go Go.Am Go.Pol
def stA (L : List Vw) : AV := .agg [.isl (L.map vwC)]
def rwA (x : Rw) : AV := .agg [.int .i64 x.1, .int .i64 x.2.1, .int .i64 x.2.2.1, .bool x.2.2.2]
theorem ok_rw {x : Rw} (h : okW x) : ∃ w : Vw, x = rwV w ∧ (w.1 < 64 ∧ w.2.1 < 1024 ∧ w.2.2.1 < 1024) := by
 obtain ⟨⟨h4, h5⟩, ⟨h6, h7⟩, h8, h9⟩ := h
 refine ⟨(x.1.toNat, x.2.1.toNat, x.2.2.1.toNat, x.2.2.2), Prod.ext ?_ (Prod.ext ?_ (Prod.ext ?_ rfl)), ?_, ?_, ?_⟩
 ·show x.1 = ((x.1.toNat : Nat) : Int); omega
 ·show x.2.1 = ((x.2.1.toNat : Nat) : Int); omega
 ·show x.2.2.1 = ((x.2.2.1.toNat : Nat) : Int); omega
 ·show x.1.toNat < 64; omega
 ·show x.2.1.toNat < 1024; omega
 ·show x.2.2.1.toNat < 1024; omega
theorem in_nat {m : Int} {x : Int} (h : inR m x) : ∃ n : Nat, x = (n : Int) ∧ (n : Int) < m := ⟨x.toNat, by have := h.1; omega, by have := h.1; have := h.2; omega⟩
section
variable {L : List Vw} {t : TS}
theorem TOk.split (h : TOk L t) (a k : Nat) : (∃ A v B, L = A ++ v :: B ∧ v.1 = a ∧ v.2.1 = k ∧ ∀ w ∈ A, ¬ atV (a, k) w) ∨ ∀ w ∈ L, ¬ atV (a, k) w := by
 by_cases hx : ∃ v ∈ L, atV (a, k) v
 ·obtain ⟨v, hv, h1, h2⟩ := hx
  obtain ⟨A, B, hL⟩ := List.append_of_mem hv
  have hs := h.srt
  rw [hL] at hs
  refine .inl ⟨A, v, B, hL, h1, h2, fun w hw ha => (mid_ne hs).1 w hw ?_⟩
  dsimp only at h1 h2
  rw [h1, h2]; exact ha
 ·exact .inr fun w hw ha => hx ⟨w, hw, ha⟩
theorem both_Map (h : TOk L t) (x : Rw) : ∃ e t' L', TOk L' t' ∧ LocT 15 [rwA x] t (.int .i64 e) t' ∧ PureS 39 [stA L, rwA x] (.tup [stA L', .int .i64 e]) := by
 have hl := h.len
 by_cases hx : okW x
 ·obtain ⟨v, rfl, hv⟩ := ok_rw hx
  rcases h.split v.1 v.2.1 with ⟨A, u, B, hL, h1, h2, hA⟩ | hn
  ·exact ⟨8, t, L, h, t_Map_twice h (v := v) hv (u := u) (by rw [hL]; simp) ⟨h1, h2⟩, q_Map_twice hv hL hA ⟨h1, h2⟩ hl⟩
  ·by_cases hf : L.length = 2000
   ·exact ⟨5, t, L, h, t_Map_full h hv hn hf, q_Map_full hv hn hf⟩
   ·obtain ⟨t', h1, h2⟩ := t_Map h hv hn (by omega)
    exact ⟨0, t', _, h1, h2, q_Map hv hn (by omega)⟩
 ·exact ⟨7, t, L, h, t_Map_no _ _ _ _ hx, q_Map_no x hx⟩
theorem both_Unmap (h : TOk L t) (a k : Int) : ∃ f l e t' L', TOk L' t' ∧ LocT 24 [.int .i64 a, .int .i64 k] t (.tup [.int .i64 f, .int .i64 l, .int .i64 e]) t' ∧ PureS 25 [stA L, .int .i64 a, .int .i64 k] (.tup [stA L', .int .i64 f, .int .i64 l, .int .i64 e]) := by
 have hl := h.len
 by_cases hr : inR 64 a ∧ inR 1024 k
 ·obtain ⟨a', rfl, ha⟩ := in_nat hr.1
  obtain ⟨k', rfl, hk⟩ := in_nat hr.2
  rcases h.split a' k' with ⟨A0, v, B0, hL0, rfl, rfl, _⟩ | hn
  ·obtain ⟨s, hs, hu⟩ := h.slot (v := v) (by rw [hL0]; simp)
   obtain ⟨t', A, B, X, Y, hL, h1, _, _, _, h2⟩ := t_Unmap h hs hu
   have hsr := h.srt
   rw [hL] at hsr
   exact ⟨_, _, _, t', _, h1, h2, q_Unmap ⟨by omega, by omega⟩ hL (mid_ne hsr).1 hl⟩
  ·exact ⟨_, _, _, t, L, h, t_Unmap_none h (by omega) (by omega) hn, q_Unmap_bad (by decide) (q_view_none (by omega) (by omega) hn (by omega))⟩
 ·exact ⟨_, _, _, t, L, h, t_Unmap_no a k hr, q_Unmap_bad (by decide) (q_view_no a k hr)⟩
theorem both_Protect (h : TOk L t) (a k : Int) (w : Bool) : ∃ e t' L', TOk L' t' ∧ LocT 26 [.int .i64 a, .int .i64 k, .bool w] t (.int .i64 e) t' ∧ PureS 27 [stA L, .int .i64 a, .int .i64 k, .bool w] (.tup [stA L', .int .i64 e]) := by
 have hl := h.len
 by_cases hr : inR 64 a ∧ inR 1024 k
 ·obtain ⟨a', rfl, ha⟩ := in_nat hr.1
  obtain ⟨k', rfl, hk⟩ := in_nat hr.2
  rcases h.split a' k' with ⟨A0, v, B0, hL0, rfl, rfl, _⟩ | hn
  ·obtain ⟨s, hs, hu⟩ := h.slot (v := v) (by rw [hL0]; simp)
   obtain ⟨t', A, B, hL, h1, h2⟩ := t_Protect h hs hu w
   have hsr := h.srt
   rw [hL] at hsr
   exact ⟨_, t', _, h1, h2, q_Protect w ⟨by omega, by omega⟩ hL (mid_ne hsr).1 hl⟩
  ·exact ⟨_, t, L, h, t_Protect_none h w (by omega) (by omega) hn, q_Protect_bad w (by decide) (q_view_none (by omega) (by omega) hn (by omega))⟩
 ·exact ⟨_, t, L, h, t_Protect_no a k w hr, q_Protect_bad w (by decide) (q_view_no a k hr)⟩
theorem both_Find (h : TOk L t) (a k : Int) : ∃ (x : Rw) (e : Int), LocT 28 [.int .i64 a, .int .i64 k] t (.tup [rwA x, .int .i64 e]) t ∧ PureS 29 [stA L, .int .i64 a, .int .i64 k] (.tup [rwA x, .int .i64 e]) := by
 have hl := h.len
 by_cases hr : inR 64 a ∧ inR 1024 k
 ·obtain ⟨a', rfl, ha⟩ := in_nat hr.1
  obtain ⟨k', rfl, hk⟩ := in_nat hr.2
  rcases h.split a' k' with ⟨A, v, B, hL, rfl, rfl, hA⟩ | hn
  ·exact ⟨rwV v, 0, t_Find h (v := v) (by rw [hL]; simp), q_Find (by omega) (by omega) hL hA ⟨rfl, rfl⟩ (by omega)⟩
  ·exact ⟨(0, 0, 0, false), 4, t_Find_none h (by omega) (by omega) hn, q_Find_bad (by decide) (q_view_none (by omega) (by omega) hn (by omega))⟩
 ·exact ⟨(0, 0, 0, false), 7, t_Find_no a k hr, q_Find_bad (by decide) (q_view_no a k hr)⟩
theorem both_Count (h : TOk L t) (f : Int) : ∃ (n e : Int), LocT 11 [.int .i64 f] t (.tup [.int .i64 n, .int .i64 e]) t ∧ PureS 30 [stA L, .int .i64 f] (.tup [.int .i64 n, .int .i64 e]) := by
 have hl := h.len
 have hq := q_Count (L := L) f (by omega)
 by_cases hr : inR 1024 f
 ·rw [if_pos hr, if_pos hr] at hq
  obtain ⟨f', rfl, hf⟩ := in_nat hr
  have ht := t_Count (t := t) (f := f') (by omega)
  rw [h.cnt, ← cntI_nat] at ht
  exact ⟨_, _, ht, hq⟩
 ·rw [if_neg hr, if_neg hr] at hq
  exact ⟨_, _, t_Count_no f hr, hq⟩
theorem both_Split (h : TOk L t) (a k f : Int) : ∃ e t' L', TOk L' t' ∧ LocT 33 [.int .i64 a, .int .i64 k, .int .i64 f] t (.int .i64 e) t' ∧ PureS 34 [stA L, .int .i64 a, .int .i64 k, .int .i64 f] (.tup [stA L', .int .i64 e]) := by
 have hl := h.len
 by_cases hr : inR 64 a ∧ inR 1024 k ∧ inR 1024 f
 ·obtain ⟨a', rfl, ha⟩ := in_nat hr.1
  obtain ⟨k', rfl, hk⟩ := in_nat hr.2.1
  obtain ⟨f', rfl, hf⟩ := in_nat hr.2.2
  rcases h.split a' k' with ⟨A0, v, B0, hL0, rfl, rfl, hA0⟩ | hn
  ·have hv : v ∈ L := by rw [hL0]; simp
   by_cases hc : cntF L f' = 0
   ·obtain ⟨s, hs, hu⟩ := h.slot hv
    obtain ⟨t', A, B, hL, h1, h2⟩ := t_Split h hs hu (f := f') (by omega) hc
    have hsr := h.srt
    rw [hL] at hsr
    exact ⟨_, t', _, h1, h2, q_Split ⟨by omega, by omega⟩ (by omega) hL (mid_ne hsr).1 hl hc⟩
   ·exact ⟨_, t, L, h, t_Split_twice h hv (by omega) (by omega), q_Split_twice ⟨by omega, by omega⟩ (by omega) hL0 hA0 hl (by omega)⟩
  ·exact ⟨_, t, L, h, t_Split_none h (by omega) (by omega) (by omega) hn, q_Split_none (by omega) (by omega) (by omega) hn hl⟩
 ·exact ⟨_, t, L, h, t_Split_no a k f hr, q_Split_no a k f hr⟩
theorem both_Fork (h : TOk L t) (a b : Int) : ∃ n e t' L', TOk L' t' ∧ LocT 31 [.int .i64 a, .int .i64 b] t (.tup [.int .i64 n, .int .i64 e]) t' ∧ PureS 32 [stA L, .int .i64 a, .int .i64 b] (.tup [stA L', .int .i64 n, .int .i64 e]) := by
 have hl := h.len
 by_cases hr : inR 64 a ∧ inR 64 b
 ·obtain ⟨a', rfl, ha⟩ := in_nat hr.1
  obtain ⟨b', rfl, hb⟩ := in_nat hr.2
  by_cases hab : a' = b'
  ·exact ⟨_, 2, t, L, h, t_Fork_bad h (by omega) (by omega) (.inl ⟨rfl, hab⟩), q_Fork_bad (by omega) (by omega) hl (.inl ⟨rfl, hab⟩)⟩
  ·by_cases hB : (ofA b' L).length = 0
   ·by_cases hf : 2000 < L.length + (ofA a' L).length
    ·exact ⟨_, 5, t, L, h, t_Fork_bad h (by omega) (by omega) (.inr (.inr ⟨rfl, hab, hB, hf⟩)), q_Fork_bad (by omega) (by omega) hl (.inr (.inr ⟨rfl, hab, hB, hf⟩))⟩
    ·have hnb : ofA b' L = [] := List.eq_nil_of_length_eq_zero hB
     obtain ⟨t', M, h1, h2, h3⟩ := t_Fork h hab (by omega) (by omega) hnb (by omega)
     have e := fork_same h.srt h1.srt hnb h2
     by_cases h0 : L.length = 0
     ·have hq := q_Fork_nil (L := L) (a := a') (b := b') hab (by omega) (by omega) h0
      have hLn := List.eq_nil_of_length_eq_zero h0
      refine ⟨_, _, t', M, h1, h3, ?_⟩
      subst hLn
      rw [e]
      exact hq
     ·have hq := q_Fork hab (by omega) (by omega) hnb (by omega) h.srt (by omega)
      rw [← e] at hq
      exact ⟨_, _, t', M, h1, h3, hq⟩
   ·exact ⟨_, 8, t, L, h, t_Fork_bad h (by omega) (by omega) (.inr (.inl ⟨rfl, hab, hB⟩)), q_Fork_bad (by omega) (by omega) hl (.inr (.inl ⟨rfl, hab, hB⟩))⟩
 ·exact ⟨_, _, t, L, h, t_Fork_no a b hr, q_Fork_no a b hr⟩
theorem both_where (h : TOk L t) (a at_ : Int) (w : Bool) : ∃ (k e : Int), LocT 48 [.int .i64 a, .int .i64 at_, .bool w] t (.tup [.int .i64 k, .int .i64 e]) t ∧ PureS 72 [stA L, .int .i64 a, .int .i64 at_, .bool w] (.tup [.int .i64 k, .int .i64 e]) := by
 have hl := h.len
 by_cases hat : inR 65536 at_
 ·obtain ⟨at', rfl, hat'⟩ := in_nat hat
  by_cases ha : inR 64 a
  ·obtain ⟨a', rfl, ha'⟩ := in_nat ha
   rcases h.split a' (at' / 64) with ⟨A, v, B, hL, rfl, hk, hA⟩ | hn
   ·have hv : v ∈ L := by rw [hL]; simp
    have hok := h.ok v hv
    by_cases hw : w = true → v.2.2.2 = true
    ·exact ⟨_, _, t_where h hv (by omega) hk hw, q_Where (by omega) (by omega) hk hw hL hA hok.2.2 (by omega)⟩
    ·have hw1 : w = true := Classical.byContradiction fun e => hw fun e2 => absurd e2 e
     have hw2 : v.2.2.2 = false := by
      cases hb : v.2.2.2
      ·rfl
      ·exact absurd (fun _ => hb) hw
     subst hw1
     exact ⟨_, _, t_where_ro h hv (by omega) hk hw2, q_Where_ro (by omega) (by omega) hk hw2 hL hA hok.2.2 (by omega)⟩
   ·exact ⟨_, _, t_where_none h (by omega) (by omega) hn w, q_Where_none w (by omega) (by omega) hn (by omega)⟩
  ·exact ⟨_, _, t_where_no a at' w (by omega) ha, q_Where_no w fun e => ha e.1⟩
 ·exact ⟨_, _, t_where_far a at_ w hat, q_Where_no w fun e => hat e.2⟩
theorem gone_le {a : Nat} : (goneL L a).length ≤ 4000 := by
 exact Nat.le_trans (goneU_le _ _) (by decide)
theorem le_some {a : Nat} : ∀ M, some (goneL L a) = some M → M.length ≤ 4000 := fun M hM => by
 rw [← Option.some.inj hM]; exact gone_le
theorem both_Drop (h : TOk L t) (a : Int) : ∃ (G : Option (List Nat)) (e : Int) (t' : TS) (L' : List Vw), (∀ M, G = some M → M.length ≤ 4000) ∧ TOk L' t' ∧ LocT 12 [.int .i64 a] t (.tup [G.elim .nils fun G => .isl (G.map nat1), .int .i64 e]) t' ∧ PureS 35 [stA L, .int .i64 a] (.tup [stA L', G.elim .nils fun G => .isl (G.map nat1), .int .i64 e]) := by
 have hl := h.len
 by_cases ha : inR 64 a
 ·obtain ⟨a', rfl, ha'⟩ := in_nat ha
  obtain ⟨t', h1, h2⟩ := t_Drop h (a := a') (by omega)
  exact ⟨some (goneL L a'), 0, t', _, le_some, h1, h2, q_Drop (by omega) hl⟩
 ·exact ⟨none, 7, t, L, (fun M hM => absurd hM (by simp)), h, t_Drop_no a ha, q_Drop_no a ha⟩
end
end Go.Proofs.YtccbhbdbmmkcdaaGreat.Sh
