/-
  Saved states, plain: runs, huge pages, data of a state.
  Loading of states, plain: what is saved is loaded; what is loaded is saved.
  The document's system: page, kinds, set, change and the calls, Join, Split.
  The document's system: change and the calls, Join, Split over the plain state.
  The document's system: Join, Split, bytes, kinds, counts, plans over the plain state.
-/
import Derived.Test.YtjlbfijjfjogiaaVmC
import Derived.Test.YtjlbfijjfjogiaaAmWt
set_option linter.unusedSimpArgs false
set_option linter.unusedVariables false
namespace Go.Pol
open Go.Am
structure Rn where
  p : Int
  n : Int
  k : Int
def rnA (r : Rn) : List AV := [.int .i64 r.p, .int .i64 r.n, .int .i64 r.k]
theorem rn_len (r : Rn) : (rnA r).length = 3 := rfl
theorem rnA_plain (r : Rn) : ∀ x ∈ rnA r, Plain x := fun x hx => by
  simp only [rnA, List.mem_cons, List.not_mem_nil, or_false] at hx
  rcases hx with rfl | rfl | rfl <;> exact plain_int
/-- The bytes of a page. -/
@[irreducible] def byA (b : Nat → Int) : List AV := (List.range 64).map fun j => .int .u8 (b j)
@[simp] theorem by_len (b : Nat → Int) : (byA b).length = 64 := by unfold byA; simp
theorem byA_plain (b : Nat → Int) : ∀ x ∈ byA b, Plain x := fun x hx => by
  unfold byA at hx
  obtain ⟨i, _, rfl⟩ := List.mem_map.1 hx
  exact plain_int
structure Dt where
  p : Int
  b : Nat → Int
def dtA (d : Dt) : List AV := .int .i64 d.p :: byA d.b
theorem dt_len (d : Dt) : (dtA d).length = 65 := by unfold dtA; rw [List.length_cons, by_len]
theorem dtA_plain (d : Dt) : ∀ x ∈ dtA d, Plain x := fun x hx => by
  rcases List.mem_cons.1 hx with rfl | hx
  · exact plain_int
  · exact byA_plain _ x hx
def inA (u : Int) : List AV := [.int .i64 u]
theorem in_len (u : Int) : (inA u).length = 1 := rfl
theorem inA_plain (u : Int) : ∀ x ∈ inA u, Plain x := fun x hx => by
  obtain rfl := List.mem_singleton.1 hx; exact plain_int
/-- The last run has one page more. -/
def bump : List Rn → List Rn
  | [] => []
  | [r] => [⟨r.p, r.n + 1, r.k⟩]
  | r :: r' :: L => r :: bump (r' :: L)
theorem bump_app : ∀ {L : List Rn} {r : Rn}, bump (L ++ [r]) = L ++ [⟨r.p, r.n + 1, r.k⟩]
  | [], _ => rfl
  | [_], _ => rfl
  | _ :: b :: L, r => congrArg _ (bump_app (L := b :: L) (r := r))
def runsTo (K : Nat → Int) : Nat → List Rn
  | 0 => []
  | n + 1 => if K n = 0 then runsTo K n else if 0 < n ∧ K (n - 1) = K n then bump (runsTo K n) else runsTo K n ++ [⟨(n : Nat), 1, K n⟩]
def hugeTo (G : Nat → Bool) : Nat → List Int
  | 0 => []
  | n + 1 => if n % 16 = 0 ∧ G (n / 16) = true then hugeTo G n ++ [((n : Nat) : Int)] else hugeTo G n
def zeroB (f : Nat → Int) : Prop := ∀ j, j < 64 → f j = 0
instance (f : Nat → Int) : Decidable (zeroB f) := by unfold zeroB; infer_instance
def dataTo (B : Nat → Nat → Int) : Nat → List Dt
  | 0 => []
  | n + 1 => if zeroB (B n) then dataTo B n else dataTo B n ++ [⟨(n : Nat), B n⟩]
section
variable {K : Nat → Int} {G : Nat → Bool} {B : Nat → Nat → Int} {n p j : Nat}
theorem runs_last : ∀ {n : Nat}, 0 < n → K (n - 1) ≠ 0 → ∃ L m, runsTo K n = L ++ [⟨((n - m : Nat) : Int), (m : Nat), K (n - 1)⟩] ∧ 1 ≤ m ∧ m ≤ n
  | n + 1, _, h => by
    have h : K n ≠ 0 := h
    by_cases h1 : 0 < n ∧ K (n - 1) = K n
    · obtain ⟨L, m, e, h2, h3⟩ := runs_last h1.1 (by rw [h1.2]; exact h)
      refine ⟨L, m + 1, ?_, by omega, by omega⟩
      show (if K n = 0 then _ else if 0 < n ∧ K (n - 1) = K n then bump (runsTo K n) else _) = _
      rw [if_neg h, if_pos h1, e, bump_app, show n + 1 - (m + 1) = n - m by omega, h1.2]
      rfl
    · refine ⟨runsTo K n, 1, ?_, by omega, by omega⟩
      show (if K n = 0 then _ else if 0 < n ∧ K (n - 1) = K n then bump (runsTo K n) else _) = _
      rw [if_neg h, if_neg h1, Nat.add_sub_cancel]
      rfl
theorem runs_len : ∀ {n : Nat}, (runsTo K n).length ≤ n
  | 0 => Nat.le_refl _
  | n + 1 => by
    have := runs_len (n := n)
    show List.length (if K n = 0 then _ else if 0 < n ∧ K (n - 1) = K n then bump (runsTo K n) else _) ≤ _
    split
    · omega
    · rename_i h0
      split
      · rename_i h
        obtain ⟨L, m, e, _, _⟩ := runs_last (K := K) h.1 (by rw [h.2]; exact h0)
        rw [e] at this ⊢; rw [bump_app]
        simp only [List.length_append, List.length_cons, List.length_nil] at this ⊢; omega
      · simp only [List.length_append, List.length_cons, List.length_nil]; omega
theorem huge_len : ∀ {n : Nat}, (hugeTo G n).length ≤ n
  | 0 => Nat.le_refl _
  | n + 1 => by
    have := huge_len (n := n)
    show List.length (if n % 16 = 0 ∧ G (n / 16) = true then _ else _) ≤ _
    split
    · simp only [List.length_append, List.length_cons, List.length_nil]; omega
    · omega
theorem data_len : ∀ {n : Nat}, (dataTo B n).length ≤ n
  | 0 => Nat.le_refl _
  | n + 1 => by
    have := data_len (n := n)
    show List.length (if zeroB (B n) then _ else _) ≤ _
    split
    · omega
    · simp only [List.length_append, List.length_cons, List.length_nil]; omega
theorem runs_free : ∀ {j : Nat}, (∀ i, i < j → K (p + i) = 0) → runsTo K (p + j) = runsTo K p
  | 0, _ => rfl
  | j + 1, h => by
    show (if K (p + j) = 0 then _ else _) = _
    rw [if_pos (h j (by omega))]; exact runs_free fun i hi => h i (by omega)
theorem runs_run : ∀ {j : Nat}, (p = 0 ∨ K (p - 1) ≠ K p) → K p ≠ 0 → (∀ i, i < j + 1 → K (p + i) = K p) → runsTo K (p + (j + 1)) = runsTo K p ++ [⟨(p : Nat), ((j + 1 : Nat) : Int), K p⟩]
  | 0, h0, h1, _ => by
    show (if K p = 0 then _ else if 0 < p ∧ K (p - 1) = K p then bump (runsTo K p) else _) = _
    rw [if_neg h1, if_neg fun h => by rcases h0 with h0 | h0; exact absurd h.1 (by omega); exact h0 h.2]; rfl
  | j + 1, h0, h1, h => by
    have e := runs_run (j := j) h0 h1 fun i hi => h i (by omega)
    have e1 : K (p + (j + 1)) = K p := h (j + 1) (by omega)
    have e2 : K (p + (j + 1) - 1) = K p := h j (by omega)
    show (if K (p + (j + 1)) = 0 then _ else if 0 < p + (j + 1) ∧ K (p + (j + 1) - 1) = K (p + (j + 1)) then bump (runsTo K (p + (j + 1))) else _) = _
    rw [if_neg (by rw [e1]; exact h1), if_pos ⟨by omega, by rw [e1, e2]⟩, e, bump_app]
    rfl
end
structure Vs where
  R : List Rn
  U : List Int
  D : List Dt
  l : List Rl
  C : Nat → Int
  H : Nat → Int
def vsA (x : Vs) : List AV := .isl (x.R.map rnA) :: .isl (x.U.map inA) :: .isl (x.D.map dtA) :: stA x.l x.C x.H
theorem plain_isls {α : Type} {f : α → List AV} {L : List α} (h : ∀ a, ∀ x ∈ f a, Plain x) : Plain (.isl (L.map f)) := plain_isl fun e he => by
  obtain ⟨b, _, rfl⟩ := List.mem_map.1 he
  exact h b
theorem vsA_plain (x : Vs) : ∀ y ∈ vsA x, Plain y := fun y hy => by
  rcases List.mem_cons.1 hy with rfl | hy
  · exact plain_isls rnA_plain
  rcases List.mem_cons.1 hy with rfl | hy
  · exact plain_isls inA_plain
  rcases List.mem_cons.1 hy with rfl | hy
  · exact plain_isls dtA_plain
  · exact stA_plain y hy
theorem plain_vs {x : Vs} : Plain (.agg (vsA x)) := plain_agg (vsA_plain x)
def Sy.save (s : Sy) : Vs := ⟨runsTo s.K 1024, hugeTo s.G 1024, dataTo s.B 1024, s.l, s.C, s.H⟩
end Go.Pol
namespace Go.Pol
open Go.Am
section fold
variable {σ α : Type} {f : σ → α → Option σ}
def fo (f : σ → α → Option σ) : List α → σ → Option σ
  | [], s => some s
  | a :: l, s => match f s a with | none => none | some s' => fo f l s'
theorem fo_cons {a : α} {l : List α} {s s' : σ} (h : f s a = some s') : fo f (a :: l) s = fo f l s' := by
  show (match f s a with | none => none | some s' => fo f l s') = _; rw [h]
theorem fo_no {a : α} {l : List α} {s : σ} (h : f s a = none) : fo f (a :: l) s = none := by
  show (match f s a with | none => none | some s' => fo f l s') = _; rw [h]
theorem fo_app : ∀ {l : List α} {a : α} {s s' : σ}, fo f l s = some s' → fo f (l ++ [a]) s = f s' a
  | [], a, s, s', h => by
    obtain rfl := Option.some.inj h
    cases e : f s a with
    | none => exact fo_no e
    | some t => exact fo_cons e
  | b :: l, a, s, s', h => by
    cases e : f s b with
    | none => rw [fo_no e] at h; cases h
    | some t => rw [fo_cons e] at h; rw [List.cons_append, fo_cons e]; exact fo_app h
/-- After i steps. -/
def foA (f : σ → α → Option σ) (l : List α) (s : σ) (i : Nat) : σ := (fo f (l.take i) s).getD s
def foI (f : σ → α → Option σ) (l : List α) (s : σ) (i : Nat) : Prop := fo f (l.take i) s = some (foA f l s i)
theorem foI_0 {l : List α} {s : σ} : foI f l s 0 := by unfold foI foA; rfl
theorem foA_0 {l : List α} {s : σ} : foA f l s 0 = s := by unfold foA; rfl
theorem take_s {l : List α} {i : Nat} {d : α} (h : i < l.length) : l.take (i + 1) = l.take i ++ [nth d l i] := by
  exact take_nth h
theorem foI_s {l : List α} {s s' : σ} {i : Nat} {d : α} (h : foI f l s i) (hi : i < l.length) (e : f (foA f l s i) (nth d l i) = some s') : foI f l s (i + 1) ∧ foA f l s (i + 1) = s' := by
  have h1 : fo f (l.take (i + 1)) s = some s' := by rw [take_s (d := d) hi, fo_app h, e]
  have h2 : foA f l s (i + 1) = s' := by unfold foA; rw [h1]; rfl
  exact ⟨by unfold foI; rw [h1, h2], h2⟩
theorem fo_none : ∀ {l l' : List α} {s : σ}, fo f l s = none → fo f (l ++ l') s = none
  | [], _, _, h => by cases h
  | b :: l, l', s, h => by
    cases e : f s b with
    | none => rw [List.cons_append, fo_no e]
    | some t => rw [fo_cons e] at h; rw [List.cons_append, fo_cons e]; exact fo_none h
theorem foI_none {l : List α} {s : σ} {i : Nat} {d : α} (h : foI f l s i) (hi : i < l.length) (e : f (foA f l s i) (nth d l i) = none) : fo f l s = none := by
  rw [← List.take_append_drop (i + 1) l]
  exact fo_none (by rw [take_s (d := d) hi, fo_app h, e])
theorem foI_all {l : List α} {s : σ} {i : Nat} (h : foI f l s i) (hi : i = l.length) : fo f l s = some (foA f l s i) := by
  subst hi; unfold foI at h; rw [List.take_length] at h; exact h
end fold
/-- Runs: the next page, the last kind, the kinds. -/
structure Sr where
  nx : Int
  la : Int
  K : Nat → Int
def badRn (s : Sr) (r : Rn) : Prop := r.p < s.nx ∨ r.n < 1 ∨ 1024 - r.p < r.n ∨ r.k < 1 ∨ 3 < r.k ∨ (r.p = s.nx ∧ r.k = s.la)
instance (s : Sr) (r : Rn) : Decidable (badRn s r) := by unfold badRn; infer_instance
def stR (s : Sr) (r : Rn) : Option Sr := if badRn s r then none else some ⟨r.p + r.n, r.k, setR s.K r.p.toNat r.n.toNat r.k⟩
structure Su where
  lo : Int
  G : Nat → Bool
def stU (K : Nat → Int) (s : Su) (u : Int) : Option Su := if u ≤ s.lo ∨ ¬ fst u ∨ ¬ okC K u.toNat 16 then none else some ⟨u, updB s.G (u.toNat / 16) true⟩
structure Sd where
  lo : Int
  B : Nat → Nat → Int
def stD (K : Nat → Int) (s : Sd) (d : Dt) : Option Sd := if d.p ≤ s.lo ∨ d.p < 0 ∨ 1024 ≤ d.p ∨ K d.p.toNat ≠ 2 ∨ zeroB d.b then none else some ⟨d.p, updP s.B d.p.toNat d.b⟩
def r0 : Sr := ⟨0, 0, fun _ => 0⟩
def u0 : Su := ⟨-1, fun _ => false⟩
def d0 : Sd := ⟨-1, fun _ _ => 0⟩
/-- The program's Load, the pages. -/
def ldP (x : Vs) : Option Sy := match fo stR x.R r0 with | none => none | some r => match fo (stU r.K) x.U u0 with | none => none | some u => match fo (stD r.K) x.D d0 with | none => none | some d => some ⟨r.K, u.G, d.B, x.l, x.C, x.H⟩
/-- No byte is said of places that are none. -/
def Vs.cn (x : Vs) : Prop := ∀ d, d ∈ x.D → ∀ j, 64 ≤ j → d.b j = 0
section
variable {K K' : Nat → Int} {n : Nat}
theorem runs_congr : ∀ {n : Nat}, (∀ p, p < n → K p = K' p) → runsTo K n = runsTo K' n
  | 0, _ => rfl
  | n + 1, h => by
    have e := runs_congr (n := n) fun p hp => h p (by omega)
    show (if K n = 0 then _ else if 0 < n ∧ K (n - 1) = K n then bump (runsTo K n) else _) = (if K' n = 0 then _ else if 0 < n ∧ K' (n - 1) = K' n then bump (runsTo K' n) else _)
    rw [e, h n (by omega), h (n - 1) (by omega)]
theorem ldR_sound : ∀ {R : List Rn} {s s' : Sr} {nx : Nat}, fo stR R s = some s' → s.nx = (nx : Nat) → nx ≤ 1024 → (∀ p, nx ≤ p → s.K p = 0) → (0 < nx → s.K (nx - 1) = s.la ∧ s.la ≠ 0) → (∀ p, 0 ≤ s.K p ∧ s.K p ≤ 3) →
    runsTo s'.K 1024 = runsTo s.K nx ++ R ∧ (∀ p, 1024 ≤ p → s'.K p = 0) ∧ (∀ p, 0 ≤ s'.K p ∧ s'.K p ≤ 3)
  | [], s, s', nx, h, hnx, hn, hz, hla, hk => by
    obtain rfl := Option.some.inj h
    refine ⟨?_, fun p hp => hz p (by omega), hk⟩
    have := runs_free (K := s.K) (p := nx) (j := 1024 - nx) fun i hi => hz _ (by omega)
    rw [show nx + (1024 - nx) = 1024 by omega] at this
    rw [this, List.append_nil]
  | r :: R, s, s', nx, h, hnx, hn, hz, hla, hk => by
    by_cases hb : badRn s r
    · rw [fo_no (if_pos hb)] at h; cases h
    rw [fo_cons (if_neg hb)] at h
    unfold badRn at hb
    obtain ⟨p, hp⟩ : ∃ p : Nat, r.p = (p : Nat) := ⟨r.p.toNat, by omega⟩
    obtain ⟨m, hm⟩ : ∃ m : Nat, r.n = ((m + 1 : Nat) : Int) := ⟨r.n.toNat - 1, by omega⟩
    have hpn : nx ≤ p := by omega
    have hpm : p + (m + 1) ≤ 1024 := by omega
    have hk0 : r.k ≠ 0 := by omega
    simp only [hp, hm, Int.toNat_natCast] at h
    have z := ldR_sound (nx := p + (m + 1)) h (by show ((p : Nat) : Int) + ((m + 1 : Nat) : Int) = _; omega) hpm (fun q hq => by show setR _ _ _ _ _ = _; unfold setR; rw [if_neg (by omega)]; exact hz q (by omega)) (fun _ => ⟨by show setR _ _ _ _ _ = _; unfold setR; rw [if_pos (by omega)], hk0⟩) (fun q => by
      show 0 ≤ setR _ _ _ _ _ ∧ setR _ _ _ _ _ ≤ 3
      unfold setR; split
      · omega
      · exact hk q)
    obtain ⟨z1, z2, z3⟩ := z
    refine ⟨?_, z2, z3⟩
    rw [z1]
    have e1 : ∀ i, i < m + 1 → setR s.K p (m + 1) r.k (p + i) = r.k := fun i hi => by unfold setR; rw [if_pos (by omega)]
    have ep : setR s.K p (m + 1) r.k p = r.k := e1 0 (by omega)
    have e2 := runs_run (K := setR s.K p (m + 1) r.k) (p := p) (j := m) (by
      rw [ep]
      by_cases h0 : p = 0
      · exact .inl h0
      · refine .inr ?_
        unfold setR; rw [if_neg (by omega)]
        by_cases h1 : nx = p
        · have := hla (by omega)
          rw [← h1, this.1]
          intro e; exact hb (by right; right; right; right; right; exact ⟨by omega, e.symm⟩)
        · rw [hz _ (by omega)]; exact fun e => hk0 e.symm) (by rw [ep]; exact hk0) (fun i hi => by rw [e1 i hi, ep])
    have e3 : runsTo (setR s.K p (m + 1) r.k) p = runsTo s.K nx := by
      rw [runs_congr (K' := s.K) fun q hq => by unfold setR; rw [if_neg (by omega)]]
      have := runs_free (K := s.K) (p := nx) (j := p - nx) fun i hi => hz _ (by omega)
      rw [show nx + (p - nx) = p by omega] at this; exact this
    show runsTo (setR s.K p (m + 1) r.k) (p + (m + 1)) ++ R = _
    rw [e2, e3, ep, List.append_assoc, ← hp, ← hm]; rfl
def cutK (K : Nat → Int) (n : Nat) : Nat → Int := fun p => if p < n then K p else 0
theorem cutK_s (h : K n = 0) : cutK K (n + 1) = cutK K n := by
  funext p; unfold cutK
  by_cases h1 : p < n
  · rw [if_pos h1, if_pos (by omega)]
  · rw [if_neg h1]
    by_cases h2 : p = n
    · subst h2; rw [if_pos (by omega), h]
    · rw [if_neg (by omega)]
theorem cutK_u : updI (cutK K n) n (K n) = cutK K (n + 1) := by
  funext p
  show (if p = n then K n else if p < n then K p else 0) = if p < n + 1 then K p else 0
  by_cases h1 : p = n
  · subst h1; rw [if_pos rfl, if_pos (by omega)]
  · rw [if_neg h1]
    by_cases h2 : p < n
    · rw [if_pos h2, if_pos (by omega)]
    · rw [if_neg h2, if_neg (by omega)]
theorem fo_split : ∀ {σ α : Type} {f : σ → α → Option σ} {l : List α} {a : α} {s s' : σ}, fo f (l ++ [a]) s = some s' → ∃ t, fo f l s = some t ∧ f t a = some s'
  | σ, α, f, [], a, s, s', h => ⟨s, rfl, by
    cases e : f s a with
    | none => rw [List.nil_append, fo_no e] at h; cases h
    | some t => rw [List.nil_append, fo_cons e] at h; exact h⟩
  | σ, α, f, b :: l, a, s, s', h => by
    cases e : f s b with
    | none => rw [List.cons_append, fo_no e] at h; cases h
    | some t => rw [List.cons_append, fo_cons e] at h; obtain ⟨u, h1, h2⟩ := fo_split h; exact ⟨u, by rw [fo_cons e]; exact h1, h2⟩
theorem ldR_comp (hk : ∀ p, 0 ≤ K p ∧ K p ≤ 3) : ∀ n, n ≤ 1024 → ∃ s, fo stR (runsTo K n) r0 = some s ∧ s.K = cutK K n ∧ 0 ≤ s.nx ∧ s.nx ≤ (n : Nat) ∧ (s.nx = (n : Nat) → (n = 0 ∧ s.la = 0) ∨ (0 < n ∧ s.la = K (n - 1) ∧ K (n - 1) ≠ 0)) ∧ (0 < n → K (n - 1) ≠ 0 → s.nx = (n : Nat))
  | 0, _ => ⟨r0, rfl, by funext p; show (0 : Int) = _; unfold cutK; rw [if_neg (by omega)], Int.le_refl _, Int.le_refl _, fun _ => .inl ⟨rfl, rfl⟩, fun h => absurd h (by omega)⟩
  | n + 1, hn => by
    obtain ⟨s, h1, h2, h3, h4, h5, h6⟩ := ldR_comp hk n (by omega)
    by_cases h0 : K n = 0
    · refine ⟨s, ?_, by rw [cutK_s h0]; exact h2, h3, by omega, fun e => absurd e (by omega), fun _ e => absurd h0 e⟩
      show fo stR (if K n = 0 then _ else _) r0 = _
      rw [if_pos h0]; exact h1
    · have hkn := hk n
      by_cases hb : 0 < n ∧ K (n - 1) = K n
      · obtain ⟨L, m, e, m1, m2⟩ := runs_last (K := K) hb.1 (by rw [hb.2]; exact h0)
        have h7 := h6 hb.1 (by rw [hb.2]; exact h0)
        rw [e] at h1
        obtain ⟨t, t1, t2⟩ := fo_split h1
        unfold stR at t2
        split at t2
        · cases t2
        rename_i hq
        obtain rfl := Option.some.inj t2
        refine ⟨⟨((n - m : Nat) : Int) + ((m : Nat) + 1 : Int), K n, setR t.K (n - m) (m + 1) (K n)⟩, ?_, ?_, by dsimp only; omega, by show ((n - m : Nat) : Int) + ((m : Nat) + 1 : Int) ≤ _; omega, fun _ => .inr ⟨by omega, rfl, h0⟩, fun _ _ => by show ((n - m : Nat) : Int) + ((m : Nat) + 1 : Int) = _; omega⟩
        · show fo stR (if K n = 0 then _ else if 0 < n ∧ K (n - 1) = K n then bump (runsTo K n) else _) r0 = _
          rw [if_neg h0, if_pos hb, e, bump_app, fo_app t1]
          unfold stR
          rw [if_neg]
          · simp only [hb.2]
            rw [show ((m : Nat) + 1 : Int).toNat = m + 1 by omega, Int.toNat_natCast]
          · unfold badRn at hq ⊢
            simp only [hb.2] at hq ⊢
            omega
        · show setR t.K (n - m) (m + 1) (K n) = _
          have h2' : setR t.K (n - m) m (K (n - 1)) = cutK K n := by
            have : setR t.K ((n - m : Nat) : Int).toNat ((m : Nat) : Int).toNat (K (n - 1)) = cutK K n := h2
            simpa using this
          rw [← setR_s, ← hb.2, h2', show n - m + m = n by omega, hb.2, cutK_u]
      · refine ⟨⟨((n : Nat) : Int) + 1, K n, setR s.K n 1 (K n)⟩, ?_, ?_, by dsimp only; omega, by show ((n : Nat) : Int) + 1 ≤ _; omega, fun _ => .inr ⟨by omega, rfl, h0⟩, fun _ _ => by show ((n : Nat) : Int) + 1 = _; omega⟩
        · show fo stR (if K n = 0 then _ else if 0 < n ∧ K (n - 1) = K n then bump (runsTo K n) else _) r0 = _
          rw [if_neg h0, if_neg hb, fo_app h1]
          unfold stR
          rw [if_neg]
          · rfl
          · unfold badRn
            simp only
            intro hx
            rcases hx with hx | hx | hx | hx | hx | ⟨hx, hy⟩
            · omega
            · omega
            · omega
            · omega
            · omega
            · rcases h5 hx.symm with ⟨e1, e2⟩ | ⟨e1, e2, e3⟩
              · rw [e2] at hy; exact h0 hy
              · exact hb ⟨e1, by rw [← e2]; exact hy.symm⟩
        · show setR s.K n 1 (K n) = _
          rw [h2]
          have := setR_s (K := cutK K n) (a := n) (i := 0) (v := K n)
          rw [setR_0] at this
          rw [← this, Nat.add_zero, cutK_u]
theorem ldU_sound : ∀ {U : List Int} {s s' : Su}, fo (stU K) U s = some s' → -1 ≤ s.lo → s.lo < 1024 → (∀ g : Nat, s.lo < ((g * 16 : Nat) : Int) → s.G g = false) → (∀ g, s.G g = true → okC K (g * 16) 16 ∧ g < 64) →
    hugeTo s'.G 1024 = hugeTo s.G (s.lo + 1).toNat ++ U ∧ (∀ g, s'.G g = true → okC K (g * 16) 16 ∧ g < 64)
  | [], s, s', h, hl, hn, hz, hk => by
    obtain rfl := Option.some.inj h
    refine ⟨?_, hk⟩
    rw [List.append_nil]
    have : ∀ j, (s.lo + 1).toNat + j ≤ 1024 → hugeTo s.G ((s.lo + 1).toNat + j) = hugeTo s.G (s.lo + 1).toNat := fun j => by
      induction j with
      | zero => intro _; rfl
      | succ j ih =>
        intro hj
        show (if ((s.lo + 1).toNat + j) % 16 = 0 ∧ s.G (((s.lo + 1).toNat + j) / 16) = true then _ else _) = _
        rw [if_neg fun hh => by
          have := hz (((s.lo + 1).toNat + j) / 16) (by omega)
          rw [this] at hh; exact absurd hh.2 (by simp)]
        exact ih (by omega)
    have e := this (1024 - (s.lo + 1).toNat) (by omega)
    rw [show (s.lo + 1).toNat + (1024 - (s.lo + 1).toNat) = 1024 by omega] at e; exact e
  | u :: U, s, s', h, hl, hn, hz, hk => by
    by_cases hb : u ≤ s.lo ∨ ¬ fst u ∨ ¬ okC K u.toNat 16
    · rw [fo_no (if_pos hb)] at h; cases h
    rw [fo_cons (if_neg hb)] at h
    have hf : fst u := Classical.byContradiction fun h => hb (.inr (.inl h))
    have hc : okC K u.toNat 16 := Classical.byContradiction fun h => hb (.inr (.inr h))
    have hlu : s.lo < u := Classical.byContradiction fun h => hb (.inl (by omega))
    obtain ⟨g, rfl, hg⟩ := fst_nat hf
    simp only [Int.toNat_natCast] at h hc
    rw [show g * 16 / 16 = g by omega] at h
    obtain ⟨z1, z2⟩ := ldU_sound h (by dsimp only; omega) (by show ((g * 16 : Nat) : Int) < _; omega) (fun g' hg' => by
      show updB s.G g true g' = false
      have hg'' : ((g * 16 : Nat) : Int) < ((g' * 16 : Nat) : Int) := hg'
      unfold updB; rw [if_neg (by omega)]; exact hz g' (by omega)) (fun g' hg' => by
      have hg'' : updB s.G g true g' = true := hg'
      unfold updB at hg''
      split at hg''
      · rename_i e; rw [e]; exact ⟨hc, hg⟩
      · exact hk g' hg'')
    refine ⟨?_, z2⟩
    rw [z1]
    show hugeTo (updB s.G g true) (((g * 16 : Nat) : Int) + 1).toNat ++ U = _
    rw [show (((g * 16 : Nat) : Int) + 1).toNat = g * 16 + 1 by omega]
    show (if g * 16 % 16 = 0 ∧ updB s.G g true (g * 16 / 16) = true then _ else _) ++ U = _
    rw [show g * 16 / 16 = g by omega, if_pos ⟨by omega, by simp [updB]⟩, List.append_assoc]
    have e2 : ∀ n, n ≤ g * 16 → hugeTo (updB s.G g true) n = hugeTo s.G n := fun n => by
      induction n with
      | zero => intro _; rfl
      | succ n ih =>
        intro hn
        show (if n % 16 = 0 ∧ updB s.G g true (n / 16) = true then _ else _) = (if n % 16 = 0 ∧ s.G (n / 16) = true then _ else _)
        rw [ih (by omega)]
        have : updB s.G g true (n / 16) = s.G (n / 16) := by unfold updB; rw [if_neg (by omega)]
        rw [this]
    have e3 : ∀ j, (s.lo + 1).toNat + j ≤ g * 16 → hugeTo s.G ((s.lo + 1).toNat + j) = hugeTo s.G (s.lo + 1).toNat := fun j => by
      induction j with
      | zero => intro _; rfl
      | succ j ih =>
        intro hj
        show (if ((s.lo + 1).toNat + j) % 16 = 0 ∧ s.G (((s.lo + 1).toNat + j) / 16) = true then _ else _) = _
        rw [if_neg fun hh => by
          have := hz (((s.lo + 1).toNat + j) / 16) (by omega)
          rw [this] at hh; exact absurd hh.2 (by simp)]
        exact ih (by omega)
    have e4 := e3 (g * 16 - (s.lo + 1).toNat) (by omega)
    rw [show (s.lo + 1).toNat + (g * 16 - (s.lo + 1).toNat) = g * 16 by omega] at e4
    rw [e2 _ (Nat.le_refl _), e4]; rfl
theorem ldU_comp {G : Nat → Bool} (hk : ∀ g, G g = true → okC K (g * 16) 16) : ∀ n, n ≤ 1024 → ∃ s, fo (stU K) (hugeTo G n) u0 = some s ∧ (∀ g, s.G g = if g * 16 < n then G g else false) ∧ -1 ≤ s.lo ∧ s.lo < (n : Nat)
  | 0, _ => ⟨u0, rfl, fun g => by show false = _; rw [if_neg (by omega)], Int.le_refl _, by show (-1 : Int) < _; omega⟩
  | n + 1, hn => by
    obtain ⟨s, h1, h2, h3, h4⟩ := ldU_comp hk n (by omega)
    by_cases h : n % 16 = 0 ∧ G (n / 16) = true
    · have e : n / 16 * 16 = n := by omega
      refine ⟨⟨(n : Nat), updB s.G (n / 16) true⟩, ?_, fun g => ?_, by dsimp only; omega, by show ((n : Nat) : Int) < _; omega⟩
      · show fo (stU K) (if n % 16 = 0 ∧ G (n / 16) = true then _ else _) u0 = _
        rw [if_pos h, fo_app h1]
        unfold stU
        rw [if_neg, Int.toNat_natCast]
        rw [Int.toNat_natCast]
        intro hx
        rcases hx with hx | hx | hx
        · omega
        · exact hx ⟨by omega, by omega, by rw [Int.tmod_eq_emod_of_nonneg (by omega)]; omega⟩
        · have := hk _ h.2; rw [e] at this; exact hx this
      · show updB s.G (n / 16) true g = _
        unfold updB
        by_cases h5 : g = n / 16
        · rw [if_pos h5, if_pos (by omega), h5, h.2]
        · rw [if_neg h5, h2]
          by_cases h6 : g * 16 < n
          · rw [if_pos h6, if_pos (by omega)]
          · rw [if_neg h6, if_neg (by omega)]
    · refine ⟨s, ?_, fun g => ?_, h3, by omega⟩
      · show fo (stU K) (if n % 16 = 0 ∧ G (n / 16) = true then _ else _) u0 = _
        rw [if_neg h]; exact h1
      · rw [h2]
        by_cases h6 : g * 16 < n
        · rw [if_pos h6, if_pos (by omega)]
        · rw [if_neg h6]
          by_cases h7 : g * 16 < n + 1
          · rw [if_pos h7]
            have e : n = g * 16 := by omega
            cases hg : G g with
            | false => rfl
            | true => exact absurd ⟨by omega, by rw [show n / 16 = g by omega]; exact hg⟩ h
          · rw [if_neg h7]
theorem ldD_sound : ∀ {D : List Dt} {s s' : Sd}, fo (stD K) D s = some s' → -1 ≤ s.lo → s.lo < 1024 → (∀ p : Nat, s.lo < (p : Int) → s.B p = fun _ => 0) → (∀ p, K p ≠ 2 → s.B p = fun _ => 0) → (∀ d, d ∈ D → ∀ j, 64 ≤ j → d.b j = 0) → (∀ p j, 64 ≤ j → s.B p j = 0) →
    dataTo s'.B 1024 = dataTo s.B (s.lo + 1).toNat ++ D ∧ (∀ p, K p ≠ 2 → s'.B p = fun _ => 0) ∧ (∀ p j, 64 ≤ j → s'.B p j = 0)
  | [], s, s', h, hl, hn, hz, hk, _, hc => by
    obtain rfl := Option.some.inj h
    refine ⟨?_, hk, hc⟩
    rw [List.append_nil]
    have : ∀ j, (s.lo + 1).toNat + j ≤ 1024 → dataTo s.B ((s.lo + 1).toNat + j) = dataTo s.B (s.lo + 1).toNat := fun j => by
      induction j with
      | zero => intro _; rfl
      | succ j ih =>
        intro hj
        show (if zeroB (s.B ((s.lo + 1).toNat + j)) then _ else _) = _
        rw [if_pos (by rw [hz _ (by omega)]; intro _ _; rfl)]
        exact ih (by omega)
    have e := this (1024 - (s.lo + 1).toNat) (by omega)
    rw [show (s.lo + 1).toNat + (1024 - (s.lo + 1).toNat) = 1024 by omega] at e; exact e
  | d :: D, s, s', h, hl, hn, hz, hk, hd, hc => by
    by_cases hb : d.p ≤ s.lo ∨ d.p < 0 ∨ 1024 ≤ d.p ∨ K d.p.toNat ≠ 2 ∨ zeroB d.b
    · rw [fo_no (if_pos hb)] at h; cases h
    rw [fo_cons (if_neg hb)] at h
    have hzb : ¬ zeroB d.b := fun h => hb (.inr (.inr (.inr (.inr h))))
    have hkp : K d.p.toNat = 2 := Classical.byContradiction fun h => hb (.inr (.inr (.inr (.inl h))))
    obtain ⟨p, hp⟩ : ∃ p : Nat, d.p = (p : Nat) := ⟨d.p.toNat, by omega⟩
    have hp1 : s.lo < (p : Nat) ∧ p < 1024 := ⟨by omega, by omega⟩
    rw [hp, Int.toNat_natCast] at h
    rw [hp, Int.toNat_natCast] at hkp
    obtain ⟨z1, z2, z3⟩ := ldD_sound h (by dsimp only; omega) (by show ((p : Nat) : Int) < _; omega) (fun q hq => by
      have hq' : ((p : Nat) : Int) < ((q : Nat) : Int) := hq
      show updP s.B p d.b q = _
      unfold updP; rw [if_neg (by omega)]; exact hz q (by omega)) (fun q hq => by
      show updP s.B p d.b q = _
      unfold updP
      split
      · rename_i e; rw [e] at hq; exact absurd hkp hq
      · exact hk q hq) (fun d' hd' => hd d' (List.mem_cons_of_mem _ hd')) (fun q j hj => by
      show updP s.B p d.b q j = 0
      unfold updP
      split
      · exact hd d (List.mem_cons_self ..) j hj
      · exact hc q j hj)
    refine ⟨?_, z2, z3⟩
    rw [z1]
    show dataTo (updP s.B p d.b) (((p : Nat) : Int) + 1).toNat ++ D = _
    rw [show (((p : Nat) : Int) + 1).toNat = p + 1 by omega]
    have hb' : updP s.B p d.b p = d.b := by simp [updP]
    show (if zeroB (updP s.B p d.b p) then _ else _ ++ [(⟨(p : Nat), updP s.B p d.b p⟩ : Dt)]) ++ D = _
    rw [hb', if_neg hzb, List.append_assoc]
    have e2 : ∀ n, n ≤ p → dataTo (updP s.B p d.b) n = dataTo s.B n := fun n => by
      induction n with
      | zero => intro _; rfl
      | succ n ih =>
        intro hn
        show (if zeroB (updP s.B p d.b n) then _ else _ ++ [(⟨(n : Nat), updP s.B p d.b n⟩ : Dt)]) = (if zeroB (s.B n) then _ else _ ++ [(⟨(n : Nat), s.B n⟩ : Dt)])
        rw [ih (by omega)]
        have : updP s.B p d.b n = s.B n := by unfold updP; rw [if_neg (by omega)]
        rw [this]
    have e3 : ∀ j, (s.lo + 1).toNat + j ≤ p → dataTo s.B ((s.lo + 1).toNat + j) = dataTo s.B (s.lo + 1).toNat := fun j => by
      induction j with
      | zero => intro _; rfl
      | succ j ih =>
        intro hj
        show (if zeroB (s.B ((s.lo + 1).toNat + j)) then _ else _) = _
        rw [if_pos (by rw [hz _ (by omega)]; intro _ _; rfl)]
        exact ih (by omega)
    have e4 := e3 (p - (s.lo + 1).toNat) (by omega)
    rw [show (s.lo + 1).toNat + (p - (s.lo + 1).toNat) = p by omega] at e4
    rw [e2 _ (Nat.le_refl _), e4]
    have : (⟨(p : Nat), d.b⟩ : Dt) = d := by cases d; simp only at hp; rw [hp]
    rw [this]; rfl
theorem ldD_comp {B : Nat → Nat → Int} (hk : ∀ p, ¬ zeroB (B p) → K p = 2) : ∀ n, n ≤ 1024 → ∃ s, fo (stD K) (dataTo B n) d0 = some s ∧ (∀ p, s.B p = if p < n ∧ ¬ zeroB (B p) then B p else fun _ => 0) ∧ -1 ≤ s.lo ∧ s.lo < (n : Nat)
  | 0, _ => ⟨d0, rfl, fun p => by rw [if_neg (by omega)]; rfl, Int.le_refl _, by show (-1 : Int) < _; omega⟩
  | n + 1, hn => by
    obtain ⟨s, h1, h2, h3, h4⟩ := ldD_comp hk n (by omega)
    by_cases h : zeroB (B n)
    · refine ⟨s, ?_, fun p => ?_, h3, by omega⟩
      · show fo (stD K) (if zeroB (B n) then _ else _) d0 = _
        rw [if_pos h]; exact h1
      · rw [h2]
        by_cases h6 : p < n ∧ ¬ zeroB (B p)
        · rw [if_pos h6, if_pos ⟨by omega, h6.2⟩]
        · rw [if_neg h6, if_neg fun h7 => by
            by_cases e : p = n
            · rw [e] at h7; exact h7.2 h
            · exact h6 ⟨by omega, h7.2⟩]
    · refine ⟨⟨(n : Nat), updP s.B n (B n)⟩, ?_, fun p => ?_, by dsimp only; omega, by show ((n : Nat) : Int) < _; omega⟩
      · show fo (stD K) (if zeroB (B n) then _ else _) d0 = _
        rw [if_neg h, fo_app h1]
        unfold stD
        simp only [Int.toNat_natCast]
        rw [if_neg]
        intro hx
        rcases hx with hx | hx | hx | hx | hx
        · omega
        · omega
        · omega
        · exact hx (hk n h)
        · exact h hx
      · show updP s.B n (B n) p = _
        unfold updP
        by_cases e : p = n
        · rw [if_pos e, if_pos ⟨by omega, by rw [e]; exact h⟩, e]
        · rw [if_neg e, h2]
          by_cases h6 : p < n ∧ ¬ zeroB (B p)
          · rw [if_pos h6, if_pos ⟨by omega, h6.2⟩]
          · rw [if_neg h6, if_neg fun h7 => h6 ⟨by omega, h7.2⟩]
end
/-- The pages of a state that is as it should be. -/
structure Pg (s : Sy) : Prop where
  kind : ∀ p, 0 ≤ s.K p ∧ s.K p ≤ 3
  huge : ∀ p, s.M p = true → s.K p = 2
  zero : ∀ p, s.K p ≠ 2 → s.B p = fun _ => 0
  cK : ∀ p, 1024 ≤ p → s.K p = 0
  cB : ∀ p j, 64 ≤ j → s.B p j = 0
theorem ldP_of {x : Vs} {s : Sy} : ldP x = some s ↔ ∃ r u d, fo stR x.R r0 = some r ∧ fo (stU r.K) x.U u0 = some u ∧ fo (stD r.K) x.D d0 = some d ∧ s = ⟨r.K, u.G, d.B, x.l, x.C, x.H⟩ := by
  constructor
  · intro h
    unfold ldP at h
    split at h
    · cases h
    rename_i r h1
    split at h
    · cases h
    rename_i u h2
    split at h
    · cases h
    rename_i d h3
    exact ⟨r, u, d, h1, h2, h3, (Option.some.inj h).symm⟩
  · rintro ⟨r, u, d, h1, h2, h3, rfl⟩
    unfold ldP; rw [h1]; dsimp only; rw [h2]; dsimp only; rw [h3]
theorem ldP_ok {x : Vs} {s : Sy} (hc : x.cn) (h : ldP x = some s) : Pg s ∧ s.save = x := by
  obtain ⟨r, u, d, h1, h2, h3, rfl⟩ := ldP_of.1 h
  obtain ⟨a1, a2, a3⟩ := ldR_sound (nx := 0) h1 rfl (by omega) (fun _ _ => rfl) (fun h => absurd h (by omega)) (fun _ => ⟨Int.le_refl _, by show (0 : Int) ≤ 3; decide⟩)
  obtain ⟨b1, b2⟩ := ldU_sound h2 (Int.le_refl _) (by show (-1 : Int) < 1024; decide) (fun _ _ => rfl) (fun _ h => by cases h)
  obtain ⟨c1, c2, c3⟩ := ldD_sound h3 (Int.le_refl _) (by show (-1 : Int) < 1024; decide) (fun _ _ => rfl) (fun _ _ => rfl) hc (fun _ _ _ => rfl)
  refine ⟨⟨a3, fun p hp => ?_, c2, a2, c3⟩, ?_⟩
  · have h := (b2 _ hp).1 (p % 16) (by omega)
    rw [show p / 16 * 16 + p % 16 = p by omega] at h; exact h
  · unfold Sy.save
    simp only [a1, b1, c1]
    cases x; rfl
/-- The document's Load: what the state says is laid out. -/
def badL (r : Rn) : Prop := r.p < 0 ∨ 1024 ≤ r.p ∨ r.n < 1 ∨ 1024 - r.p < r.n ∨ r.k < 1 ∨ 3 < r.k
instance (r : Rn) : Decidable (badL r) := by unfold badL; infer_instance
def lyR (K : Nat → Int) (r : Rn) : Option (Nat → Int) := if badL r then none else some (setR K r.p.toNat r.n.toNat r.k)
def lyU (K : Nat → Int) (G : Nat → Bool) (u : Int) : Option (Nat → Bool) := if ¬ fst u ∨ ¬ okC K u.toNat 16 then none else some (updB G (u.toNat / 16) true)
def lyD (B : Nat → Nat → Int) (d : Dt) : Option (Nat → Nat → Int) := if d.p < 0 ∨ 1024 ≤ d.p then none else some (updP B d.p.toNat d.b)
def ldL (x : Vs) : Option Sy := match fo lyR x.R (fun _ => 0) with | none => none | some K => match fo (lyU K) x.U (fun _ => false) with | none => none | some G => match fo lyD x.D (fun _ _ => 0) with | none => none | some B => some ⟨K, G, B, x.l, x.C, x.H⟩
def Sy.saveR (s : Sy) : Vs := { s.save with D := dataTo (fun p => if s.K p = 2 then s.B p else fun _ => 0) 1024 }
theorem saveR_eq {s : Sy} (h : Pg s) : s.saveR = s.save := by
  unfold Sy.saveR
  have : (fun p => if s.K p = 2 then s.B p else fun _ => 0) = s.B := by
    funext p; split
    · rfl
    · rename_i h0; exact (h.zero p h0).symm
  rw [this]; rfl
theorem ldL_of {x : Vs} {s : Sy} : ldL x = some s ↔ ∃ K G B, fo lyR x.R (fun _ => 0) = some K ∧ fo (lyU K) x.U (fun _ => false) = some G ∧ fo lyD x.D (fun _ _ => 0) = some B ∧ s = ⟨K, G, B, x.l, x.C, x.H⟩ := by
  constructor
  · intro h
    unfold ldL at h
    split at h
    · cases h
    rename_i r h1
    split at h
    · cases h
    rename_i u h2
    split at h
    · cases h
    rename_i d h3
    exact ⟨r, u, d, h1, h2, h3, (Option.some.inj h).symm⟩
  · rintro ⟨r, u, d, h1, h2, h3, rfl⟩
    unfold ldL; rw [h1]; dsimp only; rw [h2]; dsimp only; rw [h3]
theorem fo_map {σ τ α : Type} {f : σ → α → Option σ} {g : τ → α → Option τ} {m : σ → τ} (hm : ∀ s a s', f s a = some s' → g (m s) a = some (m s')) : ∀ {l : List α} {s s' : σ}, fo f l s = some s' → fo g l (m s) = some (m s')
  | [], _, _, h => by rw [← Option.some.inj h]; rfl
  | a :: l, s, s', h => by
    cases e : f s a with
    | none => rw [fo_no e] at h; cases h
    | some t => rw [fo_cons e] at h; rw [fo_cons (hm _ _ _ e)]; exact fo_map hm h
theorem fo_mapI {σ τ α : Type} {f : σ → α → Option σ} {g : τ → α → Option τ} {m : σ → τ} {p : σ → Prop} (hm : ∀ s a s', p s → f s a = some s' → p s' ∧ g (m s) a = some (m s')) : ∀ {l : List α} {s s' : σ}, p s → fo f l s = some s' → fo g l (m s) = some (m s')
  | [], _, _, _, h => by rw [← Option.some.inj h]; rfl
  | a :: l, s, s', h0, h => by
    cases e : f s a with
    | none => rw [fo_no e] at h; cases h
    | some t => rw [fo_cons e] at h; rw [fo_cons (hm _ _ _ h0 e).2]; exact fo_mapI hm (hm _ _ _ h0 e).1 h
theorem fo_inv {σ α : Type} {f : σ → α → Option σ} {p : σ → Prop} (hm : ∀ s a s', p s → f s a = some s' → p s') : ∀ {l : List α} {s s' : σ}, p s → fo f l s = some s' → p s'
  | [], _, _, h0, h => by rw [← Option.some.inj h]; exact h0
  | a :: l, s, s', h0, h => by
    cases e : f s a with
    | none => rw [fo_no e] at h; cases h
    | some t => rw [fo_cons e] at h; exact fo_inv hm (hm _ _ _ h0 e) h
theorem ldL_P {x : Vs} {s : Sy} (h : ldP x = some s) : ldL x = some s := by
  obtain ⟨r, u, d, h1, h2, h3, rfl⟩ := ldP_of.1 h
  refine ldL_of.2 ⟨r.K, u.G, d.B, ?_, ?_, ?_, rfl⟩
  · exact fo_mapI (m := Sr.K) (p := fun s => 0 ≤ s.nx) (fun s a s' h0 e => by
      unfold stR at e; unfold lyR
      split at e
      · cases e
      rename_i hb
      unfold badRn at hb
      rw [← Option.some.inj e]
      exact ⟨by dsimp only; omega, if_neg (by unfold badL; omega)⟩) (Int.le_refl _) h1
  · exact fo_map (m := Su.G) (fun s a s' e => by
      unfold stU at e; unfold lyU
      split at e
      · cases e
      rename_i hb
      rw [if_neg fun hx => hb (.inr hx), ← Option.some.inj e]) h2
  · exact fo_map (m := Sd.B) (fun s a s' e => by
      unfold stD at e; unfold lyD
      split at e
      · cases e
      rename_i hb
      rw [if_neg (by omega), ← Option.some.inj e]) h3
/-- Both find the same. -/
theorem ldL_same {x : Vs} {s : Sy} (hc : x.cn) : ldP x = some s ↔ ldL x = some s ∧ s.saveR = x := by
  constructor
  · intro h
    obtain ⟨h1, h2⟩ := ldP_ok hc h
    exact ⟨ldL_P h, by rw [saveR_eq h1]; exact h2⟩
  · rintro ⟨h, hs⟩
    obtain ⟨K, G, B, h1, h2, h3, rfl⟩ := ldL_of.1 h
    have k1 : (∀ p, 0 ≤ K p ∧ K p ≤ 3) ∧ ∀ p, 1024 ≤ p → K p = 0 := fo_inv (p := fun K => (∀ p, 0 ≤ K p ∧ K p ≤ 3) ∧ ∀ p, 1024 ≤ p → K p = 0) (fun K r K' hK e => by
      unfold lyR at e
      split at e
      · cases e
      rename_i hb
      unfold badL at hb
      rw [← Option.some.inj e]
      refine ⟨fun p => ?_, fun p hp => ?_⟩
      · unfold setR; split
        · omega
        · exact hK.1 p
      · unfold setR; rw [if_neg (by omega)]; exact hK.2 p hp) ⟨fun _ => ⟨Int.le_refl _, by show (0 : Int) ≤ 3; decide⟩, fun _ _ => rfl⟩ h1
    have g1 : ∀ g, G g = true → okC K (g * 16) 16 := fo_inv (f := lyU K) (p := fun G => ∀ g, G g = true → okC K (g * 16) 16) (fun G u G' hG e => by
      unfold lyU at e
      split at e
      · cases e
      rename_i hb
      rw [← Option.some.inj e]
      have hf : fst u := Classical.byContradiction fun h => hb (.inl h)
      have hk : okC K u.toNat 16 := Classical.byContradiction fun h => hb (.inr h)
      obtain ⟨g0, rfl, hg⟩ := fst_nat hf
      intro g hg
      unfold updB at hg
      split at hg
      · rename_i e2; rw [e2, show ((g0 * 16 : Nat) : Int).toNat / 16 * 16 = g0 * 16 by omega]; rw [Int.toNat_natCast] at hk; exact hk
      · exact hG g hg) (fun _ h => by cases h) h2
    have hR : runsTo K 1024 = x.R := congrArg Vs.R hs
    have hU : hugeTo G 1024 = x.U := congrArg Vs.U hs
    have hD : dataTo (fun p => if K p = 2 then B p else fun _ => 0) 1024 = x.D := congrArg Vs.D hs
    obtain ⟨r, r1, r2, -⟩ := ldR_comp k1.1 1024 (Nat.le_refl _)
    have e1 : r.K = K := by
      rw [r2]; funext p; unfold cutK; split
      · rfl
      · exact (k1.2 p (by omega)).symm
    obtain ⟨u, u1, -⟩ := ldU_comp g1 1024 (Nat.le_refl _)
    obtain ⟨d, d1, -⟩ := ldD_comp (K := K) (B := fun p => if K p = 2 then B p else fun _ => 0) (fun p hp => Classical.byContradiction fun h0 => hp (by rw [if_neg h0]; intro _ _; rfl)) 1024 (Nat.le_refl _)
    rw [hR] at r1
    rw [hU] at u1
    rw [hD] at d1
    have hp := ldP_of.2 ⟨r, u, d, r1, by rw [e1]; exact u1, by rw [e1]; exact d1, rfl⟩
    have := ldL_P hp
    rw [h] at this
    rw [hp, this]
end Go.Pol
namespace Go.Pol
open Go.Am
def okV (K : Nat → Int) (a n : Nat) (v : Int) : Prop := ∀ i, i < n → K (a + i) = v
instance (K : Nat → Int) (a n : Nat) (v : Int) : Decidable (okV K a n v) := by unfold okV; infer_instance
end Go.Pol
namespace Go.Proofs.Ytjlbfijjfjogiaa
open Go Go.Am Go.Pol
theorem wkx_Tc {p : Prop} (h : p := by (refine weak_s (by exact oneOf_of rfl) (by exact subH_of rfl) (by intro hs; (repeat' ((try (conv => whnf)); first | with_reducible exact True.intro | with_reducible refine And.intro ?_ ?_ | (with_reducible refine WkX.mk ?_; first | exact wk_undef | exact wk_int (by first | rfl | omega | (dsimp only; omega)) | exact wk_bool rfl | exact wk_ptr rfl (by first | decide | simp | omega) | exact wk_sl rfl (by first | decide | simp | omega) (by first | rfl | omega | simp) (by first | omega | simp) (by first | omega | simp) | exact wk_own rfl (by first | decide | simp | omega) | exact wk_nil0 (by first | rfl | simp) | exact wk_slown rfl (by first | decide | omega | (simp; done)) (by first | omega | (simp; done)) (by first | rfl | omega | (simp; done) | (simp; omega)) | exact wk_plain hs (by (first | assumption | exact plain_int | exact plain_bool | exact plain_undef | exact plain_nils | exact plain_nilp | exact plain_nilf | exact plain_str | with_reducible apply plain_rl | with_reducible apply plain_rls | with_reducible apply plain_pl | with_reducible apply plain_ii | with_reducible apply plain_st | with_reducible apply plain_stE | with_reducible apply plain_zst | with_reducible apply plain_zstE | with_reducible apply plain_irl | with_reducible apply plain_mk | with_reducible apply plain_stB | with_reducible apply plain_zstB)) | (with_reducible refine wk_fn ?_ ?_ <;> repeat' (first | with_reducible exact wkl_nil | with_reducible refine wkl_cons ?_ ?_ | exact wk_ptr rfl (by first | decide | simp | omega))) | (with_reducible refine wk_agg ?_; repeat' (first | with_reducible exact wkl_nil | with_reducible refine wkl_cons ?_ ?_ | exact wk_int (by first | rfl | omega | (dsimp only; omega)) | exact wk_bool rfl)) | exact wk_yld rfl (by first | decide | simp | omega))))) (by intro hs; (try dsimp only); (repeat' (first | with_reducible exact wko_nil | refine wko_plain hs (by first | decide | omega | simp) rfl (by first | rfl) (by (first | with_reducible assumption | with_reducible apply rlA_plain _ | with_reducible apply plain_flat rlA_plain | with_reducible apply stA_plain | with_reducible apply memT_plain | with_reducible apply sys_plain stA_plain | with_reducible apply rfk_plain stA_plain | with_reducible apply sys_plain hP | with_reducible apply rfk_plain hP | with_reducible apply plain_map (fun _ => plain_int) | with_reducible apply plain_map (fun _ => plain_bool) | ((repeat' (first | exact plain_all0 | refine plain_all2 ?_ ?_ | exact plain_int | first | assumption | exact plain_int | exact plain_bool | exact plain_undef | exact plain_nils | exact plain_nilp | exact plain_nilf | exact plain_str | with_reducible apply plain_rl | with_reducible apply plain_rls | with_reducible apply plain_pl | with_reducible apply plain_ii | with_reducible apply plain_st | with_reducible apply plain_stE | with_reducible apply plain_zst | with_reducible apply plain_zstE | with_reducible apply plain_irl | with_reducible apply plain_mk | with_reducible apply plain_stB | with_reducible apply plain_zstB)); done) | ((refine plain_app ?_ ?_) <;> (first | with_reducible assumption | with_reducible apply rlA_plain _ | with_reducible apply plain_flat rlA_plain | with_reducible apply stA_plain | with_reducible apply memT_plain | with_reducible apply sys_plain stA_plain | with_reducible apply rfk_plain stA_plain | with_reducible apply sys_plain hP | with_reducible apply rfk_plain hP | with_reducible apply plain_map (fun _ => plain_int) | with_reducible apply plain_map (fun _ => plain_bool) | ((repeat' (first | exact plain_all0 | refine plain_all2 ?_ ?_ | exact plain_int | first | assumption | exact plain_int | exact plain_bool | exact plain_undef | exact plain_nils | exact plain_nilp | exact plain_nilf | exact plain_str | with_reducible apply plain_rl | with_reducible apply plain_rls | with_reducible apply plain_pl | with_reducible apply plain_ii | with_reducible apply plain_st | with_reducible apply plain_stE | with_reducible apply plain_zst | with_reducible apply plain_zstE | with_reducible apply plain_irl | with_reducible apply plain_mk | with_reducible apply plain_stB | with_reducible apply plain_zstB)); done))))) ?_ | refine wko_cells (by first | decide | omega | simp) rfl (by repeat' (first | with_reducible exact wkl_nil | with_reducible refine wkl_cons ?_ ?_ | (first | exact wk_undef | exact wk_int (by first | rfl | omega | (dsimp only; omega)) | exact wk_bool rfl | exact wk_ptr rfl (by first | decide | simp | omega) | exact wk_sl rfl (by first | decide | simp | omega) (by first | rfl | omega | simp) (by first | omega | simp) (by first | omega | simp) | exact wk_own rfl (by first | decide | simp | omega) | exact wk_nil0 (by first | rfl | simp) | exact wk_slown rfl (by first | decide | omega | (simp; done)) (by first | omega | (simp; done)) (by first | rfl | omega | (simp; done) | (simp; omega)) | exact wk_plain hs (by (first | assumption | exact plain_int | exact plain_bool | exact plain_undef | exact plain_nils | exact plain_nilp | exact plain_nilf | exact plain_str | with_reducible apply plain_rl | with_reducible apply plain_rls | with_reducible apply plain_pl | with_reducible apply plain_ii | with_reducible apply plain_st | with_reducible apply plain_stE | with_reducible apply plain_zst | with_reducible apply plain_zstE | with_reducible apply plain_irl | with_reducible apply plain_mk | with_reducible apply plain_stB | with_reducible apply plain_zstB)) | (with_reducible refine wk_fn ?_ ?_ <;> repeat' (first | with_reducible exact wkl_nil | with_reducible refine wkl_cons ?_ ?_ | exact wk_ptr rfl (by first | decide | simp | omega))) | (with_reducible refine wk_agg ?_; repeat' (first | with_reducible exact wkl_nil | with_reducible refine wkl_cons ?_ ?_ | exact wk_int (by first | rfl | omega | (dsimp only; omega)) | exact wk_bool rfl)) | exact wk_yld rfl (by first | decide | simp | omega)))) ?_ | refine wko_loop (by first | decide | omega | simp) rfl (by ((try subst hF); (try subst hF2); exact wkl_sd (wkf_sget (by (repeat' ((try (conv => whnf)); first | with_reducible exact True.intro | with_reducible refine And.intro ?_ ?_ | (with_reducible refine WkX.mk ?_; first | exact wk_undef | exact wk_int (by first | rfl | omega | (dsimp only; omega)) | exact wk_bool rfl | exact wk_ptr rfl (by first | decide | simp | omega) | exact wk_sl rfl (by first | decide | simp | omega) (by first | rfl | omega | simp) (by first | omega | simp) (by first | omega | simp) | exact wk_own rfl (by first | decide | simp | omega) | exact wk_nil0 (by first | rfl | simp) | exact wk_slown rfl (by first | decide | omega | (simp; done)) (by first | omega | (simp; done)) (by first | rfl | omega | (simp; done) | (simp; omega)) | exact wk_plain hs (by (first | assumption | exact plain_int | exact plain_bool | exact plain_undef | exact plain_nils | exact plain_nilp | exact plain_nilf | exact plain_str | with_reducible apply plain_rl | with_reducible apply plain_rls | with_reducible apply plain_pl | with_reducible apply plain_ii | with_reducible apply plain_st | with_reducible apply plain_stE | with_reducible apply plain_zst | with_reducible apply plain_zstE | with_reducible apply plain_irl | with_reducible apply plain_mk | with_reducible apply plain_stB | with_reducible apply plain_zstB)) | (with_reducible refine wk_fn ?_ ?_ <;> repeat' (first | with_reducible exact wkl_nil | with_reducible refine wkl_cons ?_ ?_ | exact wk_ptr rfl (by first | decide | simp | omega))) | (with_reducible refine wk_agg ?_; repeat' (first | with_reducible exact wkl_nil | with_reducible refine wkl_cons ?_ ?_ | exact wk_int (by first | rfl | omega | (dsimp only; omega)) | exact wk_bool rfl)) | exact wk_yld rfl (by first | decide | simp | omega)))))))) ?_ | exact wko_nil))))) : p := h
theorem wx_Tc {p q : Prop} (hq : q) (h : HidP q → p := by (intro hQz; ((repeat' ((try (conv => whnf)); first | (with_reducible first | refine run_cons ?_ | refine runq_cons ?_ | refine code_seq ?_ | refine code_reg ?_ | refine code_cond ?_ | refine run_nil ?_ | refine runq_nil ?_ | refine rund_op rfl ?_ | refine rund_nil ?_ | refine code_block ?_ | refine code_skip ?_ | refine code_exit ?_ | refine code_ret ?_ | refine code_range ?_ | refine rund_fast (by decide +kernel) ?_ | refine rund_slow (by decide +kernel) ?_ | refine br_tt ?_ | refine br_ff ?_ | refine br_n ?_ | refine br_and ?_ | refine br_or ?_ | refine br_t (by assumption) ?_ | refine br_f (by assumption) ?_ | refine eq_i64 (by omega) ?_ | refine el_tn ?_) | ((with_reducible refine br_dt ?_ ?_); focus omega) | ((with_reducible refine br_df ?_ ?_); focus omega) | ((with_reducible apply br_dq hQz) <;> (try intro hsp hQz)) | ((with_reducible refine ck_x ?_ ?_); focus (first | omega | rfl | assumption | decide | (simp only [List.length_map, List.length_cons, List.length_nil]; omega))) | (with_reducible first | refine eq_tn ?_ | refine eq_tn1 ?_ | refine eq_tn2 ?_ | refine eq_m1 ?_ | refine eq_m2 ?_ | refine eq_zm ?_ | refine eq_z ?_ | refine len_map ?_ | refine len_sl ?_ | refine len_nils ?_ | refine len_own' ?_ | refine len_isl ?_ | refine eq_u8 (by omega) ?_ | refine eq_u16 (by omega) ?_) | (with_reducible first | refine eq_rfl ?_ | refine ChkX.mk (by kernel_rfl) ?_ | refine code_q rfl ?_ | refine code_d (by decide +kernel) ?_ | refine end_go rfl ?_) | refine len_map ?_ | refine len_isl ?_ | refine el_of rfl rfl ?_ | refine del_own ?_ | refine del_own' rfl ?_ | refine as_go rfl ?_ | refine rd_go rfl ?_ | refine rg_end rfl ?_ | refine flat_ownX ?_ | refine EqLX.mk ?_ | ((with_reducible apply br_bq hQz) <;> (try intro hsp hQz)) | exact hQz.out)) <;> (try (conv => whnf))))) : p := h ⟨hq⟩
theorem r_page (x : Int) : PureS 45 [.int .i64 x] (.bool (decide (0 ≤ x ∧ x < 1024))) := by
  refine PureS.mk (pure_x hmix b45 plainG ⟨plain_int, trivial⟩ plain_bool rfl ?_)
  unfold c45
  (refine wx_Tc ?_; repeat' (first | with_reducible refine And.intro ?_ ?_ | intro hsp))
  all_goals exact end_bool (by simp [*])
theorem wc {p q : Prop} (hq : q) (h : HidP q → p := by (intro hQz; ((repeat' ((try (conv => whnf)); first | (with_reducible first | refine run_cons ?_ | refine runq_cons ?_ | refine code_seq ?_ | refine code_reg ?_ | refine code_cond ?_ | refine run_nil ?_ | refine runq_nil ?_ | refine rund_op rfl ?_ | refine rund_nil ?_ | refine code_block ?_ | refine code_skip ?_ | refine code_exit ?_ | refine code_ret ?_ | refine code_range ?_ | refine rund_fast (by decide +kernel) ?_ | refine rund_slow (by decide +kernel) ?_ | refine br_tt ?_ | refine br_ff ?_ | refine br_n ?_ | refine br_and ?_ | refine br_or ?_ | refine br_t (by assumption) ?_ | refine br_f (by assumption) ?_ | refine eq_i64 (by omega) ?_ | refine el_tn ?_) | ((with_reducible refine br_dt ?_ ?_); focus omega) | ((with_reducible refine br_df ?_ ?_); focus omega) | ((with_reducible apply br_dq hQz) <;> (try intro hsp hQz)) | ((with_reducible refine ck_x ?_ ?_); focus (first | omega | rfl | assumption | decide | (simp only [List.length_map, List.length_cons, List.length_nil]; omega))) | (with_reducible first | refine eq_tn ?_ | refine eq_tn1 ?_ | refine eq_tn2 ?_ | refine eq_m1 ?_ | refine eq_m2 ?_ | refine eq_zm ?_ | refine eq_z ?_ | refine len_map ?_ | refine len_sl ?_ | refine len_nils ?_ | refine len_own' ?_ | refine len_isl ?_ | refine eq_u8 (by omega) ?_ | refine eq_u16 (by omega) ?_) | refine nthK_of (by with_reducible assumption) ?_ | refine eq_of (by with_reducible assumption) ?_ | refine set1K_of (by rw [ref_len]; omega) (by with_reducible assumption) ?_ | refine overK_cons (by first | (rw [ref_len]; simp only [List.length_cons, List.length_nil, List.length_replicate]; omega) | fail) (by assumption) ?_ | (with_reducible first | refine eq_rfl ?_ | refine ChkX.mk (by kernel_rfl) ?_ | refine code_q rfl ?_ | refine code_d (by decide +kernel) ?_ | refine end_go rfl ?_) | refine cx_locS (by assumption) rfl (by omega) ?_ | refine dcx_locS (by assumption) rfl rfl ?_ | refine cx_pureS (by assumption) ?_ | refine dcx_pureS (by assumption) ?_ | refine qcx_pureS (by assumption) ?_ | refine cx_pureS (r_page _) ?_ | refine dcx_pureS (r_page _) ?_ | refine qcx_pureS (r_page _) ?_ | refine len_map ?_ | refine len_isl ?_ | refine el_of rfl rfl ?_ | refine del_own ?_ | refine del_own' rfl ?_ | refine as_go rfl ?_ | refine rd_go rfl ?_ | refine rg_end rfl ?_ | refine flat_ownX ?_ | refine EqLX.mk ?_ | ((with_reducible apply br_bq hQz) <;> (try intro hsp hQz)) | exact hQz.out)) <;> (try (conv => whnf))))) : p := h ⟨hq⟩
section
variable {K : Nat → Int} {M G : Nat → Bool} {B : Nat → Nat → Int} {P : List AV}
theorem plain_3 {x y z : AV} (h1 : Plain x) (h2 : Plain y) (h3 : Plain z) : ∀ v ∈ [x, y, z], Plain v := fun v hv => by
  rcases List.mem_cons.1 hv with rfl | hv
  · exact h1
  · exact plain_2 h2 h3 v hv
set_option maxHeartbeats 1600000 in
theorem r_kinds (hP : ∀ x ∈ P, Plain x) (a n : Nat) (v : Int) (hn : a + n ≤ 1024) : LocS 46 [.int .i64 (a : Nat), .int .i64 (n : Nat), .int .i64 v] (refK K G B P) (.bool (decide (okV K a n v))) (refK K G B P) := by
  refine LocS.mk (loc_x hmix b46 rfl ?_) (rfk_plain hP) (rfk_plain hP) (plain_3 plain_int plain_int plain_int) plain_bool
  unfold c46
  (refine wc ?_; repeat' (first | with_reducible refine And.intro ?_ ?_ | intro hsp))
  (refine loop_x [0, 1, 2, 3] (fun (q : Nat) => [(9, .int .i64 (q : Nat))]) (fun (q : Nat) => ⟨[(0, .cells (refK K G B P))], 1⟩) (fun (q : Nat) => a ≤ q ∧ q ≤ a + n ∧ ∀ j, j < q - a → K (a + j) = v) (fun (q : Nat) => a + n - q) (a) [] rfl (fun _ => by first | exact Nat.zero_le _ | (dsimp only; omega)) ?_ (by ((try (conv => whnf)); exact wkx_Tc)) ?_)
  · exact ⟨Nat.le_refl _, by omega, fun j hj => by omega⟩
  rintro q ⟨h1, h2, h0⟩
  by_cases hq : q < a + n
  · have hk : (refK K G B P)[q]? = some (.int .i64 (K q)) := rfk_kind (by omega)
    by_cases h3 : K q = v
    · (refine wc ?_; repeat' (first | with_reducible refine And.intro ?_ ?_ | intro hsp))
      all_goals first | (exfalso; exact absurd h3 (by assumption)) | skip
      all_goals exact next_x (q + 1) [] ⟨by omega, by omega, fun j hj => if e : a + j = q then by rw [e]; exact h3 else h0 j (by omega)⟩ (by first | omega | (dsimp only; omega)) rfl (by exact wkx_Tc)
    · rw [decide_eq_false fun h => h3 (by have := h (q - a) (by omega); rw [show a + (q - a) = q by omega] at this; exact this)]
      (refine wc ?_; repeat' (first | with_reducible refine And.intro ?_ ?_ | intro hsp))
      all_goals first | exact end_s rfl plain_bool rfl (rfk_plain hP) | (exfalso; exact h3 (by assumption))
  · have hok : okV K a n v := fun j hj => h0 j (by omega)
    rw [decide_eq_true hok]
    (refine wc ?_; repeat' (first | with_reducible refine And.intro ?_ ?_ | intro hsp))
    all_goals exact end_s rfl plain_bool rfl (rfk_plain hP)
end
end Go.Proofs.Ytjlbfijjfjogiaa
namespace Go.Pol
open Go.Am
theorem quo16 {q : Nat} (h : q < 100000) : IntKind.i64.wrap (((q : Nat) : Int).tdiv 16) = ((q / 16 : Nat) : Int) := by
  rw [Int.tdiv_eq_ediv_of_nonneg (by omega), IntWalk.i64_in _ ⟨by omega, by omega⟩]; omega
end Go.Pol
namespace Go.Proofs.Ytjlbfijjfjogiaa
open Go Go.Am Go.Pol
section
variable {s : Sy} {a n : Int}
theorem b_plain : ∀ x ∈ s.b, Plain x := by unfold Sy.b; exact rfk_plain stA_plain
theorem a_plain : ∀ x ∈ s.a, Plain x := by unfold Sy.a; exact sys_plain stA_plain
end
end Go.Proofs.Ytjlbfijjfjogiaa
namespace Go.Pol
open Go.Am
def Sy.write (s : Sy) (a b : Int) : Int × Sy :=
  if a < 0 ∨ 65536 ≤ a then (7, s) else if s.K (a.toNat / 64) = 2 then (0, { s with B := updP s.B (a.toNat / 64) (updI (s.B (a.toNat / 64)) (a.toNat % 64) b) }) else (61, s)
def Sy.read (s : Sy) (a : Int) : Int × Int :=
  if a < 0 ∨ 65536 ≤ a then (0, 7) else if s.K (a.toNat / 64) = 2 then (s.B (a.toNat / 64) (a.toNat % 64), 0) else (0, 61)
def Sy.kind (s : Sy) (a : Int) : List AV :=
  if a < 0 ∨ 1024 ≤ a then [.int .i64 0, .bool false, .int .i64 7] else [.int .i64 (s.K a.toNat), .bool (s.M a.toNat), .int .i64 0]
def Sy.new (l : List Rl) : Sy := ⟨fun _ => 0, fun _ => false, fun _ _ => 0, l, fun _ => 0, fun _ => 0⟩
def Sy.plan (s : Sy) (l : List Rl) : Int × Sy := if (chkP l).2 = 0 then (0, { s with l := l, C := fun _ => 0, H := fun _ => 0 }) else ((chkP l).2, s)
theorem chkS_new {l : List Rl} (h : (chkP l).2 = 0) : chkS l (fun _ => 0) (fun _ => 0) = 0 := by
  unfold chkS
  rw [if_neg (by rw [h]; simp), if_pos]
  intro k hk
  exact ⟨Int.le_refl _, by show (0 : Int) ≤ 1000000; decide, rfl⟩
theorem good_new {l : List Rl} (h : (chkP l).2 = 0) : GoodS (Sy.new l) := ⟨chkS_new h, fun _ => ⟨Int.le_refl _, (by show (0 : Int) ≤ 3; decide)⟩, fun p hp => (by cases hp), fun _ _ => rfl, fun _ _ => rfl, fun _ _ _ => rfl⟩
theorem good_write {s : Sy} {a b : Int} (h : GoodS s) : GoodS (s.write a b).2 := by
  unfold Sy.write
  split
  · exact h
  · split
    · rename_i hk
      refine ⟨h.hv, h.kind, h.huge, fun p hp => ?_, h.cK, fun p j hj => ?_⟩
      · show updP s.B _ _ p = _
        unfold updP
        rw [if_neg fun e => hp (by rw [e]; exact hk)]
        exact h.zero p hp
      · show updP s.B _ _ p j = 0
        unfold updP
        split
        · unfold updI; rw [if_neg (by omega)]; exact h.cB _ _ hj
        · exact h.cB _ _ hj
    · exact h
def cntK (K : Nat → Int) (v : Int) : Nat → Nat
  | 0 => 0
  | n + 1 => cntK K v n + if K n = v then 1 else 0
def cntG (G : Nat → Bool) : Nat → Nat
  | 0 => 0
  | n + 1 => cntG G n + if G n = true then 1 else 0
theorem cntK_le {K : Nat → Int} {v : Int} : ∀ n, cntK K v n ≤ n
  | 0 => Nat.le_refl _
  | n + 1 => by have := cntK_le (K := K) (v := v) n; unfold cntK; split <;> omega
/-- The numbers of pages of each kind, and of huge pages. -/
def Sy.counts (s : Sy) : List AV := [.int .i64 (cntK s.K 0 1024 : Nat), .int .i64 (cntK s.K 1 1024 : Nat), .int .i64 (cntK s.K 2 1024 : Nat), .int .i64 (cntK s.K 3 1024 : Nat), .int .i64 (cntG s.G 64 : Nat)]
theorem quo64 {a : Int} (h : 0 ≤ a) (h2 : a < 100000) : IntKind.i64.wrap (a.tdiv 64) = ((a.toNat / 64 : Nat) : Int) := by
  rw [Int.tdiv_eq_ediv_of_nonneg h, IntWalk.i64_in _ ⟨by omega, by omega⟩]; omega
theorem rem64 {a : Int} (h : 0 ≤ a) : a.tmod 64 = ((a.toNat % 64 : Nat) : Int) := by
  rw [Int.tmod_eq_emod_of_nonneg h]; omega
theorem okCV {K : Nat → Int} {a n : Nat} : okC K a n ↔ okV K a n 2 := Iff.rfl
end Go.Pol
namespace Go.Proofs.Ytjlbfijjfjogiaa
open Go Go.Am Go.Pol
section
variable {s : Sy} {a : Int}
end
end Go.Proofs.Ytjlbfijjfjogiaa
