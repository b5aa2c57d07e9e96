/-
  The queue: its memory, and what holds of it.
-/
import Derived.Test.YtggkpagngnnjjaaQa
set_option linter.unusedSimpArgs false
set_option linter.unusedVariables false
namespace Go.Pol
open Go.Am
/-- The cells of a queue: age, refused, keep, many, the pool, and by pages the slot and 1. -/
def queB (age ref keep : Int) (k pl : Nat) (F : Nat → Int) : List AV := .int .i64 age :: .int .i64 ref :: .int .i64 keep :: .int .i64 (k : Nat) :: .ptr pl 0 :: memI 1024 F
section
variable {age ref keep : Int} {k pl p : Nat} {F : Nat → Int} {v : Int}
theorem que_len : (queB age ref keep k pl F).length = 1029 := by simp only [queB, List.length_cons, memI_len]
theorem que_get (h : p < 1024) : (queB age ref keep k pl F)[5 + p]? = some (.int .i64 (F p)) := by
  unfold queB
  rw [show 5 + p = p + 1 + 1 + 1 + 1 + 1 by omega]
  simp only [List.getElem?_cons_succ]
  exact memI_get h
theorem que_set : (queB age ref keep k pl F).set (5 + p) (.int .i64 v) = queB age ref keep k pl (updI F p v) := by
  unfold queB
  rw [show 5 + p = p + 1 + 1 + 1 + 1 + 1 by omega]
  simp only [List.set_cons_succ]
  rw [memI_set]
end
/-- A queue: its numbers, and its pool's. -/
structure QD where
  age : Int
  ref : Int
  keep : Int
  V : Nat → Int
  W : Nat → Int
  F : Nat → Int
  Q : Nat → List Nat
  S : PS
def QD.que (x : QD) (pl : Nat) : List AV := queB x.age x.ref x.keep (x.Q 0).length pl x.F
def QD.pool (x : QD) (b c : Nat) : List AV := [.sl b 0 1024 1024 5, .sl c 0 1 1 3, .int .i64 (x.S.fr : Nat)]
def QD.cells (x : QD) : List AV := cellsB 1024 x.V x.W x.S.L x.S.N x.S.P
def QD.ends (x : QD) : List AV := endsB 1 x.S.A x.S.B x.S.C
def queS (x : QD) : List (Nat × AObj) := [(0, .cells (x.que 1)), (1, .cells (x.pool 2 3)), (2, .cells x.cells), (3, .cells x.ends)]
theorem qx_len {x : QD} {pl : Nat} : (x.que pl).length = 1029 := que_len
theorem qx_get {x : QD} {pl p : Nat} (h : p < 1024) : (x.que pl)[5 + p]? = some (.int .i64 (x.F p)) := que_get h
theorem qx_set {x : QD} {pl p : Nat} {v : Int} : (x.que pl).set (5 + p) (.int .i64 v) = queB x.age x.ref x.keep (x.Q 0).length pl (updI x.F p v) := que_set
/-- One page is before another one. -/
def ltP (a b : Int × Int) : Prop := ordI a.1 a.2 b.1 b.2 < 0
instance (a b : Int × Int) : Decidable (ltP a b) := inferInstanceAs (Decidable (_ < _))
theorem ltP_iff {a b : Int × Int} : ltP a b ↔ a.2 < b.2 ∨ (a.2 = b.2 ∧ a.1 < b.1) := by
  unfold ltP ordI sgn
  repeat' split
  all_goals omega
theorem ltP_trans {a b c : Int × Int} (h1 : ltP a b) (h2 : ltP b c) : ltP a c := by
  rw [ltP_iff] at *; omega
def QD.pg (x : QD) (s : Nat) : Int × Int := (x.V s, x.W s)
def QD.pages (x : QD) : List (Int × Int) := (x.Q 0).map x.pg
def okPg (a : Int × Int) : Prop := 0 ≤ a.1 ∧ a.1 < 1024 ∧ 0 ≤ a.2 ∧ a.2 ≤ 1000000000000
structure GQ (x : QD) : Prop where
  good : GoodP 1024 1 x.V x.W x.Q x.S
  age_ok : 0 ≤ x.age ∧ x.age ≤ 1000000000000
  keep_ok : 0 ≤ x.keep ∧ x.keep ≤ 1024
  ref_ok : 0 ≤ x.ref
  rng : ∀ s, s ∈ x.Q 0 → okPg (x.pg s)
  srt : (x.Q 0).Pairwise fun s t => ltP (x.pg s) (x.pg t)
  at_ : ∀ s, s ∈ x.Q 0 → x.F (x.V s).toNat = (s : Int) + 1
  fre : ∀ p : Nat, p < 1024 → (∀ s, s ∈ x.Q 0 → x.V s ≠ (p : Int)) → x.F p = 0
section
variable {x : QD}
theorem GQ.slot_lt (h : GQ x) {s : Nat} (hs : s ∈ x.Q 0) : s < 1024 := (h.good.inv.st.us 0 s hs).1
theorem GQ.nd (h : GQ x) : (x.Q 0).Nodup := h.good.inv.st.nd 0
theorem GQ.vn (h : GQ x) {s : Nat} (hs : s ∈ x.Q 0) : ∃ p : Nat, p < 1024 ∧ x.V s = (p : Int) ∧ x.F p = (s : Int) + 1 := by
  have hr := h.rng s hs
  unfold okPg QD.pg at hr
  dsimp only at hr
  refine ⟨(x.V s).toNat, by omega, by omega, h.at_ s hs⟩
theorem GQ.who (h : GQ x) {p : Nat} (hp : p < 1024) : (x.F p = 0 ∧ ∀ s, s ∈ x.Q 0 → x.V s ≠ (p : Int)) ∨ ∃ s, s ∈ x.Q 0 ∧ x.V s = (p : Int) ∧ x.F p = (s : Int) + 1 := by
  by_cases hx : ∃ s, s ∈ x.Q 0 ∧ x.V s = (p : Int)
  · obtain ⟨s, h1, h2⟩ := hx
    have := h.at_ s h1
    rw [h2, Int.toNat_natCast] at this
    exact .inr ⟨s, h1, h2, this⟩
  · have hn : ∀ s, s ∈ x.Q 0 → x.V s ≠ (p : Int) := fun s h1 h2 => hx ⟨s, h1, h2⟩
    exact .inl ⟨h.fre p hp hn, hn⟩
theorem range_le : ∀ (n : Nat) (l : List Nat), l.Nodup → (∀ t, t < n → t ∈ l) → n ≤ l.length
  | 0, _, _, _ => Nat.zero_le _
  | n + 1, l, hd, h => by
    have h1 := range_le n (l.erase n) (hd.erase n) fun t ht => (List.mem_erase_of_ne (by omega)).2 (h t (by omega))
    rw [List.length_erase_of_mem (h n (by omega))] at h1
    have : 0 < l.length := List.length_pos_of_mem (h n (by omega))
    omega
/-- A page that is not in a queue finds a slot. -/
theorem GQ.free (h : GQ x) {p : Nat} (hp : p < 1024) (h0 : x.F p = 0) : ∃ s, freeAt 1024 x.Q s := by
  rcases free_or 1024 x.Q with hf | hf
  · exact hf
  · exfalso
    have hall : ∀ t, t < 1024 → t ∈ x.Q 0 := fun t ht => by
      obtain ⟨i, hi⟩ := hf t ht
      by_cases e : i = 0
      · exact e ▸ hi
      · rw [h.good.inv.st.out i (by omega)] at hi; cases hi
    have hl := range_le 1024 (x.Q 0) h.nd hall
    have hm : ((x.Q 0).map fun s => (x.V s).toNat).length ≤ 1023 := by
      have hnd : (p :: (x.Q 0).map fun s => (x.V s).toNat).Nodup := by
        rw [List.nodup_cons]
        refine ⟨fun hm => ?_, ?_⟩
        · obtain ⟨s, h1, h2⟩ := List.mem_map.1 hm
          have := h.at_ s h1
          rw [h2] at this
          omega
        · refine List.pairwise_map.2 (List.Pairwise.imp_of_mem ?_ h.nd)
          intro s t hs ht hne e
          have h1 := h.at_ s hs
          have h2 := h.at_ t ht
          rw [e] at h1
          omega
      have := len_le 1024 _ hnd fun y hy => by
        rcases List.mem_cons.1 hy with rfl | hy
        · exact hp
        · obtain ⟨s, h1, rfl⟩ := List.mem_map.1 hy
          obtain ⟨q, h2, h3, _⟩ := h.vn h1
          rw [h3, Int.toNat_natCast]; exact h2
      simpa using this
    rw [List.length_map] at hm
    omega
/-- A page is put between those ahead of it and those behind it. -/
theorem GQ.add (h : GQ x) {p : Nat} {st : Int} {s : Nat} {X Y : List Nat} {S' : PS} (hp : okPg ((p : Int), st)) (h0 : x.F p = 0) (hs : ∀ i, s ∉ x.Q i) (hQ : x.Q 0 = X ++ Y)
    (hX : ∀ t, t ∈ X → ltP (x.pg t) ((p : Int), st)) (hY : ∀ t, t ∈ Y → ltP ((p : Int), st) (x.pg t)) (hi : Inv 1024 1 (updI x.V s p) (updI x.W s st) (updQ x.Q 0 (X ++ s :: Y)) S') :
    GQ ⟨x.age, x.ref, x.keep, updI x.V s p, updI x.W s st, updI x.F p (s + 1), updQ x.Q 0 (X ++ s :: Y), S'⟩ := by
  have hpl : p < 1024 := by have := hp.2.1; dsimp only at this; omega
  have hne : ∀ t, t ∈ x.Q 0 → t ≠ s := fun t ht e => hs 0 (e ▸ ht)
  have hmem : ∀ t, t ∈ X ++ s :: Y → t = s ∨ t ∈ x.Q 0 := fun t ht => by
    rw [hQ]
    rcases List.mem_append.1 ht with h1 | h1
    · exact .inr (List.mem_append_left _ h1)
    · rcases List.mem_cons.1 h1 with h2 | h2
      · exact .inl h2
      · exact .inr (List.mem_append_right _ h2)
  have hvp : ∀ t, t ∈ x.Q 0 → x.V t ≠ (p : Int) := fun t ht e => by
    have := h.at_ t ht
    rw [e, Int.toNat_natCast] at this
    omega
  have hpg : ∀ t, t ≠ s → QD.pg ⟨x.age, x.ref, x.keep, updI x.V s p, updI x.W s st, updI x.F p (s + 1), updQ x.Q 0 (X ++ s :: Y), S'⟩ t = x.pg t := fun t ht => by
    unfold QD.pg; dsimp only; rw [updI_ne ht, updI_ne ht]
  have hpgs : QD.pg ⟨x.age, x.ref, x.keep, updI x.V s p, updI x.W s st, updI x.F p (s + 1), updQ x.Q 0 (X ++ s :: Y), S'⟩ s = ((p : Int), st) := by
    unfold QD.pg; dsimp only; rw [updI_at, updI_at]
  have hsrt := h.srt
  rw [hQ, List.pairwise_append] at hsrt
  refine ⟨h.good.up hi, h.age_ok, h.keep_ok, h.ref_ok, fun t ht => ?_, ?_, fun t ht => ?_, fun q hq hn => ?_⟩
  · dsimp only at ht; rw [updQ_at] at ht
    rcases hmem t ht with rfl | h1
    · rw [hpgs]; exact hp
    · rw [hpg t (hne t h1)]; exact h.rng t h1
  · show List.Pairwise _ (updQ x.Q 0 (X ++ s :: Y) 0)
    rw [updQ_at, List.pairwise_append, List.pairwise_cons]
    have hXm : ∀ t, t ∈ X → t ≠ s := fun t ht => hne t (by rw [hQ]; exact List.mem_append_left _ ht)
    have hYm : ∀ t, t ∈ Y → t ≠ s := fun t ht => hne t (by rw [hQ]; exact List.mem_append_right _ ht)
    refine ⟨hsrt.1.imp_of_mem fun ha hb hab => by rw [hpg _ (hXm _ ha), hpg _ (hXm _ hb)]; exact hab, ⟨fun t ht => by rw [hpgs, hpg t (hYm t ht)]; exact hY t ht, hsrt.2.1.imp_of_mem fun ha hb hab => by rw [hpg _ (hYm _ ha), hpg _ (hYm _ hb)]; exact hab⟩, fun a ha b hb => ?_⟩
    rcases List.mem_cons.1 hb with rfl | hb
    · rw [hpgs, hpg a (hXm a ha)]; exact hX a ha
    · rw [hpg a (hXm a ha), hpg b (hYm b hb)]; exact hsrt.2.2 a ha b hb
  · dsimp only at ht; rw [updQ_at] at ht
    dsimp only
    rcases hmem t ht with rfl | h1
    · rw [updI_at, Int.toNat_natCast, updI_at]
    · rw [updI_ne (hne t h1)]
      obtain ⟨q, hq1, hq2, hq3⟩ := h.vn h1
      have hqp : q ≠ p := fun e => hvp t h1 (e ▸ hq2)
      rw [hq2, Int.toNat_natCast, updI_ne hqp, hq3]
  · dsimp only at hn ⊢
    rw [updQ_at] at hn
    have hqp : q ≠ p := fun e => by
      have := hn s (by simp)
      rw [updI_at] at this
      exact this (by rw [e])
    rw [updI_ne hqp]
    refine h.fre q hq fun t ht => ?_
    have := hn t (by
      rw [hQ] at ht
      rcases List.mem_append.1 ht with h1 | h1
      · exact List.mem_append_left _ h1
      · exact List.mem_append_right _ (List.mem_cons_of_mem _ h1))
    rwa [updI_ne (hne t ht)] at this
/-- A page is taken out. -/
theorem GQ.cut (h : GQ x) {p s : Nat} {X Y : List Nat} {S' : PS} (hp : x.V s = (p : Int)) (hQ : x.Q 0 = X ++ s :: Y) (hi : Inv 1024 1 (updI x.V s 0) (updI x.W s 0) (updQ x.Q 0 (X ++ Y)) S') :
    GQ ⟨x.age, x.ref, x.keep, updI x.V s 0, updI x.W s 0, updI x.F p 0, updQ x.Q 0 (X ++ Y), S'⟩ := by
  have hnd := h.nd
  rw [hQ] at hnd
  have hXs : ∀ t, t ∈ X → t ≠ s := fun t ht e => (List.nodup_append.1 hnd).2.2 t ht s (List.mem_cons_self ..) e
  have hYs : ∀ t, t ∈ Y → t ≠ s := fun t ht e => (List.nodup_cons.1 (List.nodup_append.1 hnd).2.1).1 (e ▸ ht)
  have hne : ∀ t, t ∈ X ++ Y → t ≠ s := fun t ht => (List.mem_append.1 ht).elim (hXs t) (hYs t)
  have hsub : ∀ t, t ∈ X ++ Y → t ∈ x.Q 0 := fun t ht => by
    rw [hQ]
    rcases List.mem_append.1 ht with h1 | h1
    · exact List.mem_append_left _ h1
    · exact List.mem_append_right _ (List.mem_cons_of_mem _ h1)
  have hpg : ∀ t, t ≠ s → QD.pg ⟨x.age, x.ref, x.keep, updI x.V s 0, updI x.W s 0, updI x.F p 0, updQ x.Q 0 (X ++ Y), S'⟩ t = x.pg t := fun t ht => by
    unfold QD.pg; dsimp only; rw [updI_ne ht, updI_ne ht]
  have hsm : s ∈ x.Q 0 := by rw [hQ]; simp
  have hFp : x.F p = (s : Int) + 1 := by have := h.at_ s hsm; rwa [hp, Int.toNat_natCast] at this
  have hsrt := h.srt
  rw [hQ, List.pairwise_append, List.pairwise_cons] at hsrt
  refine ⟨h.good.up hi, h.age_ok, h.keep_ok, h.ref_ok, fun t ht => ?_, ?_, fun t ht => ?_, fun q hq hn => ?_⟩
  · dsimp only at ht; rw [updQ_at] at ht
    rw [hpg t (hne t ht)]; exact h.rng t (hsub t ht)
  · show List.Pairwise _ (updQ x.Q 0 (X ++ Y) 0)
    rw [updQ_at, List.pairwise_append]
    exact ⟨hsrt.1.imp_of_mem fun ha hb hab => by rw [hpg _ (hXs _ ha), hpg _ (hXs _ hb)]; exact hab, hsrt.2.1.2.imp_of_mem fun ha hb hab => by rw [hpg _ (hYs _ ha), hpg _ (hYs _ hb)]; exact hab, fun a ha b hb => by rw [hpg a (hXs a ha), hpg b (hYs b hb)]; exact hsrt.2.2 a ha b (List.mem_cons_of_mem _ hb)⟩
  · dsimp only at ht; rw [updQ_at] at ht
    dsimp only
    rw [updI_ne (hne t ht)]
    obtain ⟨q, hq1, hq2, hq3⟩ := h.vn (hsub t ht)
    have hqp : q ≠ p := fun e => by
      rw [e, hFp] at hq3
      exact hne t ht (by omega)
    rw [hq2, Int.toNat_natCast, updI_ne hqp, hq3]
  · dsimp only at hn ⊢
    rw [updQ_at] at hn
    unfold updI
    split
    · rfl
    · rename_i hqp
      refine h.fre q hq fun t ht e => ?_
      by_cases hts : t = s
      · subst hts
        rw [hp] at e
        exact hqp (by omega)
      · have := hn t (by
          rw [hQ] at ht
          rcases List.mem_append.1 ht with h1 | h1
          · exact List.mem_append_left _ h1
          · rcases List.mem_cons.1 h1 with h2 | h2
            · exact absurd h2 hts
            · exact List.mem_append_right _ h2)
        rw [updI_ne hts] at this
        exact this e
end
end Go.Pol
