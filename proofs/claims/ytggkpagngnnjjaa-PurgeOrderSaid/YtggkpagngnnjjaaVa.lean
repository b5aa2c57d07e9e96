/-
  PurgeOrder: plain facts; Dirty of a queue.
-/
import Derived.Test.YtggkpagngnnjjaaRb
import Derived.Test.YtggkpagngnnjjaaTa
set_option linter.unusedSimpArgs false
set_option linter.unusedVariables false
namespace Go.Pol
open Go.Am
theorem strict_of {l : List (Int × Int)} (h2 : P2 l) (h3 : P3 l) : l.Pairwise ltP := by
  rw [List.pairwise_iff_getElem]
  intro i j hi hj hij
  have hm : ∀ d i, i + d < l.length → i + d = i ∨ ltP (nth d0 l i) (nth d0 l (i + d)) := fun d => by
    induction d with
    | zero => exact fun i _ => .inl rfl
    | succ d ih =>
      intro i hd
      refine .inr ?_
      have h4 := h2 (i + d) (by omega)
      have h5 := h3 (i + d) (i + d + 1) (by omega) (by omega)
      rw [ltP_iff] at h4 ⊢
      rcases ih i (by omega) with e | e
      · rw [show i + d = i from e] at h4 h5
        rw [show i + (d + 1) = i + 1 by omega]
        omega
      · rw [ltP_iff] at e
        rw [show i + (d + 1) = i + d + 1 by omega]
        omega
  have := hm (j - i) i (by omega)
  rw [show i + (j - i) = j by omega] at this
  rw [nth_get hi, nth_get hj] at this
  rcases this with e | e
  · omega
  · exact e
theorem ltP_asymm {a b : Int × Int} (h1 : ltP a b) (h2 : ltP b a) : a = b := by
  rw [ltP_iff] at h1 h2
  omega
theorem GQ.strict {x : QD} (h : GQ x) : x.pages.Pairwise ltP := by
  unfold QD.pages
  rw [List.pairwise_map]
  exact h.srt
/-- What is in order is known by what it has. -/
theorem pages_eq {x : QD} {l : List (Int × Int)} (h : GQ x) (h2 : P2 l) (h3 : P3 l) (hp : x.pages.Perm l) : x.pages = l :=
  hp.eq_of_pairwise (le := ltP) (fun a b _ _ h1 h2 => ltP_asymm h1 h2) h.strict (strict_of h2 h3)
/-- The pages of extents. -/
def sp1 (e : Ex) : List (Int × Int) := (List.range (e.2.1 - e.1).toNat).map fun j => (e.1 + (j : Nat), e.2.2)
def spread (E : List Ex) : List (Int × Int) := E.flatMap sp1
theorem spread_app (E F : List Ex) : spread (E ++ F) = spread E ++ spread F := by simp [spread]
theorem spread_one (e : Ex) : spread [e] = sp1 e := by simp [spread]
theorem sp1_one (p st : Int) : sp1 (p, p + 1, st) = [(p, st)] := by
  unfold sp1
  dsimp only
  rw [show (p + 1 - p).toNat = 1 by omega]
  simp
theorem sp1_more {a b st : Int} (h : a < b) : sp1 (a, b + 1, st) = sp1 (a, b, st) ++ [(b, st)] := by
  unfold sp1
  dsimp only
  rw [show (b + 1 - a).toNat = (b - a).toNat + 1 by omega, List.range_succ, List.map_append]
  congr 1
  simp
  omega
def exOk (e : Ex) : Prop := 0 ≤ e.1 ∧ e.2.1 ≤ 1024 ∧ e.1 < e.2.1
theorem exN_spread {l : List (Int × Int)} (hP : P1 l) : ∀ k, k ≤ l.length → spread (exN l k) = l.take k ∧ ∀ e ∈ exN l k, exOk e
  | 0, _ => ⟨rfl, fun e he => by cases he⟩
  | k + 1, hk => by
    obtain ⟨h1, h2⟩ := exN_spread hP k (by omega)
    rw [exN_succ (by omega), take_nth (d := d0) (show k < l.length by omega), ← h1]
    have hok := hP k (by omega)
    generalize nth d0 l k = a at *
    obtain ⟨p, st⟩ := a
    obtain ⟨hk1, hk2, -, -⟩ := hok
    dsimp only at hk1 hk2
    generalize exN l k = E at *
    rcases List.eq_nil_or_concat E with rfl | ⟨E', e, rfl⟩
    · rw [exS_nil]
      refine ⟨by rw [spread_one, sp1_one]; rfl, fun e he => ?_⟩
      obtain rfl := List.mem_singleton.1 he
      exact ⟨hk1, by dsimp only; omega, by dsimp only; omega⟩
    · rw [List.concat_eq_append] at *
      by_cases hm : e.2.2 = (p, st).2 ∧ e.2.1 = (p, st).1
      · rw [exS_on hm]
        obtain ⟨a, b, c⟩ := e
        obtain ⟨e1, e2⟩ := hm
        dsimp only at e1 e2
        subst e1 e2
        have he := h2 (a, b, c) (by simp)
        refine ⟨?_, fun e he' => ?_⟩
        · rw [spread_app, spread_app, spread_one, spread_one, sp1_more he.2.2, List.append_assoc]
        · rcases List.mem_append.1 he' with h3 | h3
          · exact h2 e (List.mem_append_left _ h3)
          · obtain rfl := List.mem_singleton.1 h3
            have := he.2.2
            exact ⟨he.1, by dsimp only; omega, by dsimp only at this ⊢; omega⟩
      · rw [exS_new hm]
        refine ⟨?_, fun e he' => ?_⟩
        · rw [spread_app _ [_], spread_one, sp1_one]
        · rcases List.mem_append.1 he' with h3 | h3
          · exact h2 e h3
          · obtain rfl := List.mem_singleton.1 h3
            exact ⟨hk1, by dsimp only; omega, by dsimp only; omega⟩
/-- How many pages the first extents have. -/
def cntE (E : List Ex) (i : Nat) : Nat := (spread (E.take i)).length
theorem sp1_len (e : Ex) : (sp1 e).length = (e.2.1 - e.1).toNat := by simp [sp1]
theorem cntE_succ {E : List Ex} {i : Nat} {e : Ex} (hi : i < E.length) (he : nth (0, 0, 0) E i = e) : cntE E (i + 1) = cntE E i + (e.2.1 - e.1).toNat := by
  unfold cntE
  rw [take_nth (d := (0, 0, 0)) hi, he, spread_app, spread_one, List.length_append, sp1_len]
theorem cntE_le {E : List Ex} (i : Nat) : cntE E i ≤ (spread E).length := by
  unfold cntE
  have : spread E = spread (E.take i) ++ spread (E.drop i) := by rw [← spread_app, List.take_append_drop]
  rw [this, List.length_append]; omega
theorem spread_nth {E : List Ex} {i j : Nat} {e : Ex} (hi : i < E.length) (he : nth (0, 0, 0) E i = e) (hj : (j : Int) < e.2.1 - e.1) : cntE E i + j < (spread E).length ∧ nth d0 (spread E) (cntE E i + j) = (e.1 + (j : Nat), e.2.2) := by
  have h1 : spread E = spread (E.take i) ++ (sp1 e ++ spread (E.drop (i + 1))) := by
    have : E = E.take i ++ (e :: E.drop (i + 1)) := by
      rw [← he, nth_get hi, ← List.drop_eq_getElem_cons hi, List.take_append_drop]
    conv => lhs; rw [this]
    rw [spread_app]
    rfl
  have hl := sp1_len e
  unfold cntE
  refine ⟨by rw [h1, List.length_append, List.length_append]; omega, ?_⟩
  unfold nth
  rw [h1, List.getElem?_append_right (by omega), show (spread (E.take i)).length + j - (spread (E.take i)).length = j by omega, List.getElem?_append_left (by omega)]
  unfold sp1
  rw [List.getElem?_map, List.getElem?_range (by omega)]
  rfl
/-! A slice from which pages are taken. -/
theorem src_drop {l : List (Nat × AObj)} {d a n cp off : Nat} {R : List (Int × Int)} {J : List AV} (hd : lk l d = some (.cells (flat pgA R ++ J))) (ho : off = a * 2) (h : a + n = R.length) : srcV (lk l) 2 (.sl d off n cp 2) = some (flat pgA (R.drop a), n, [d]) := by
  subst ho
  have hf : flat pgA R = flat pgA (R.take a) ++ flat pgA (R.drop a) := by rw [flat_app, List.take_append_drop]
  have hl := flat_len pg_len R
  have hl1 := flat_len pg_len (R.take a)
  have hl2 := flat_len pg_len (R.drop a)
  rw [List.length_take, Nat.min_eq_left (by omega)] at hl1
  rw [List.length_drop] at hl2
  simp only [srcV, cellsAt, hd]
  rw [if_pos ⟨trivial, by rw [List.length_append]; omega⟩, hf, List.append_assoc, List.drop_append_of_le_length (by omega), List.drop_of_length_le (by omega), List.nil_append, List.take_append_of_le_length (by omega), List.take_of_length_le (by omega)]
theorem take_flat {R : List (Int × Int)} {J : List AV} {k : Nat} (hk : k ≤ R.length) : (flat pgA R ++ J).take (k * 2) = flat pgA (R.take k) := by
  have hf : flat pgA R = flat pgA (R.take k) ++ flat pgA (R.drop k) := by rw [flat_app, List.take_append_drop]
  have hl1 := flat_len pg_len (R.take k)
  rw [List.length_take, Nat.min_eq_left (by omega)] at hl1
  rw [hf, List.append_assoc, List.take_append_of_le_length (by omega), List.take_of_length_le (by omega)]
theorem appV_cut {l : List (Nat × AObj)} {d k n nx : Nat} {x : AV} {R S : List (Int × Int)} {J : List AV} {rd : List Nat} (hs : srcV (lk l) 2 x = some (flat pgA S, n, rd)) (hd : lk l d = some (.cells (flat pgA R ++ J))) (hk : k ≤ R.length) (h0 : 0 < n) (hb : k + n ≤ 100000) :
    appV (lk l) nx 2 16 (.sl d 0 k k 2) x = some (.sl nx 0 (k + n) (k + n) 2, [(d, none), (nx, some (.cells (flat pgA (R.take k ++ S))))], d :: rd) := by
  have hl := flat_len pg_len R
  simp only [appV, hs, cellsAt, hd]
  rw [if_pos ⟨trivial, by rw [List.length_append]; omega⟩, if_neg (by omega), if_pos (by omega), List.drop_zero, take_flat hk, flat_app]
theorem over_nil (cs : List AV) (o : Nat) : over cs o [] = cs := by simp [over]
theorem appV_none {l : List (Nat × AObj)} {nx d o n : Nat} {cs : List AV} (hd : lk l d = some (.cells cs)) (hc : o + n * 2 ≤ cs.length) : appV (lk l) nx 2 16 (.sl d o n n 2) (.isl []) = some (.sl d o n n 2, [(d, some (.cells cs))], [d]) := by
  simp only [appV, srcV, cellsAt, hd]
  simp [over_nil, hc]
theorem wk_frz0 {P : Program} {σ : Nat → Nat} {h h' : Hp} {d o : Nat} {cs : List AV} (hi : lk h.l d = some (.cells cs)) (hi' : ∀ j o, lk h'.l j = some o → σ j ≠ d) (hs : SubH σ h h') : WkV P σ h h' (.sl d o 0 0 2) (.isl []) := wk_frz hi hi' hs rfl (fun e he => by cases he) (by simp) fun e he => by cases he
theorem appV_none2 {l : List (Nat × AObj)} {nx d o n : Nat} {cs : List AV} {L : List (Int × Int)} (hL : L.length = 0) (hd : lk l d = some (.cells cs)) (hc : o + n * 2 ≤ cs.length) : appV (lk l) nx 2 16 (.sl d o n n 2) (.isl (L.map pgA)) = some (.sl d o n n 2, [(d, some (.cells cs))], [d]) := by
  obtain rfl := List.eq_nil_of_length_eq_zero hL
  exact appV_none hd hc
theorem lk_all : ∀ {l : List (Nat × AObj)} {d : Nat} {o : AObj}, (l.all fun q => !Nat.beq q.1 d) = true → lk l d = some o → False
  | [], _, _, _, hj => by cases hj
  | (k, v) :: l, d, o, h, hj => by
    rw [List.all_cons, Bool.and_eq_true] at h
    simp only [lk] at hj
    split at hj
    · rename_i e; subst e; exact absurd h.1 (by simp)
    · exact lk_all h.2 hj
theorem ne_all {l : List (Nat × AObj)} {d : Nat} (h : (l.all fun q => !Nat.beq q.1 d) = true) : ∀ j o, lk l j = some o → rn [] j ≠ d := fun j o hj => by
  show j ≠ d
  rintro rfl
  exact lk_all h hj
/-- The last page falls out of sight. -/
theorem flat_last {R : List (Int × Int)} {k : Nat} (h : k + 1 = R.length) (J : List AV) : flat pgA R ++ J = flat pgA (R.take k) ++ (pgA (nth d0 R k) ++ J) := by
  have : R = R.take k ++ [nth d0 R k] := by rw [← take_nth (d := d0) (by omega), h, List.take_length]
  conv => lhs; rw [this]
  rw [← flat_app, List.append_assoc]
  rfl
/-- The slice of what is left. -/
def rV : Nat → AV
  | 0 => .isl []
  | m + 1 => .sl 6 0 (m + 1) (m + 1) 2
def rH (R : List (Int × Int)) (J : List AV) : Nat → List (Nat × AObj)
  | 0 => []
  | _ + 1 => [(6, .cells (flat pgA R ++ J))]
theorem src_pg {l : List (Nat × AObj)} {R : List (Int × Int)} {m : Nat} (h : R.length = m) : srcV (lk l) 2 (.isl (R.map pgA)) = some (flat pgA R, m, []) := by
  simp only [srcV]
  rw [if_pos all2, List.length_map, h]
  rfl
theorem pg_at0 {R : List (Int × Int)} {J : List AV} {k : Nat} (hk : k < R.length) {a : Int × Int} (ha : nth d0 R k = a) : (flat pgA R ++ J)[k * 2]? = some (.int .i64 a.1) ∧ (flat pgA R ++ J)[k * 2 + 1]? = some (.int .i64 a.2) := by
  have hR : R = R.take k ++ a :: R.drop (k + 1) := by rw [← ha, nth_get hk, ← List.drop_eq_getElem_cons hk, List.take_append_drop]
  have hl1 := flat_len pg_len (R.take k)
  rw [List.length_take, Nat.min_eq_left (by omega)] at hl1
  have hf : flat pgA R ++ J = flat pgA (R.take k) ++ ([AV.int .i64 a.1, .int .i64 a.2] ++ (flat pgA (R.drop (k + 1)) ++ J)) := by
    conv => lhs; rw [hR]
    rw [← flat_app, List.append_assoc]
    rfl
  constructor
  · rw [hf, List.getElem?_append_right (by omega), show k * 2 - (flat pgA (R.take k)).length = 0 by omega]; rfl
  · rw [hf, List.getElem?_append_right (by omega), show k * 2 + 1 - (flat pgA (R.take k)).length = 1 by omega]; rfl
theorem P3.nodup {l : List (Int × Int)} (h : P3 l) : (l.map (·.1)).Nodup := by
  rw [List.Nodup, List.pairwise_map, List.pairwise_iff_getElem]
  intro i j hi hj hij
  have := h i j hij hj
  rwa [nth_get hi, nth_get hj] at this
theorem perm_new {A R l : List (Int × Int)} (h : (A ++ R).Perm l) (h3 : P3 l) {a : Int × Int} (ha : a ∈ R) : ∀ b, b ∈ A → b.1 ≠ a.1 := fun b hb e => by
  have hn : ((A ++ R).map (·.1)).Nodup := ((h.map (·.1)).nodup_iff).2 h3.nodup
  rw [List.map_append] at hn
  exact (List.nodup_append.1 hn).2.2 b.1 (List.mem_map.2 ⟨b, hb, rfl⟩) a.1 (List.mem_map.2 ⟨a, ha, rfl⟩) e
theorem P1.mem {l : List (Int × Int)} (h : P1 l) {a : Int × Int} (ha : a ∈ l) : okPg a := by
  obtain ⟨i, hi, rfl⟩ := List.mem_iff_getElem.1 ha
  have := h i hi
  rwa [nth_get hi] at this
theorem pgJ_plain {a : Int × Int} {J : List AV} (h : ∀ x ∈ J, Plain x) : ∀ x ∈ pgA a ++ J, Plain x := fun x hx => (List.mem_append.1 hx).elim (pgA_plain a x) (h x)
theorem perm_out {A R l : List (Int × Int)} {X Y : List (Int × Int)} {k : Nat} (h : (A ++ R).Perm l) (hk : k < R.length) (hA : A = X ++ Y) : ((X ++ nth d0 R k :: Y) ++ (R.take k ++ R.drop (k + 1))).Perm l := by
  refine List.Perm.trans ?_ h
  subst hA
  have hR : R = R.take k ++ nth d0 R k :: R.drop (k + 1) := by rw [nth_get hk, ← List.drop_eq_getElem_cons hk, List.take_append_drop]
  conv => rhs; rw [hR]
  have h1 : (X ++ nth d0 R k :: Y).Perm (nth d0 R k :: (X ++ Y)) := List.perm_middle
  have h2 : (R.take k ++ nth d0 R k :: R.drop (k + 1)).Perm (nth d0 R k :: (R.take k ++ R.drop (k + 1))) := List.perm_middle
  refine (h1.append_right _).trans (List.Perm.trans ?_ (h2.append_left _).symm)
  exact List.perm_middle.symm
end Go.Pol
namespace Go.Proofs.Ytggkpagngnnjjaa
open Go Go.Am Go.Pol
section
variable {x : QD}
set_option maxRecDepth 20000 in
theorem q_dirty_rng (h : GQ x) {p st : Int} (hp : ¬ okPg (p, st)) : LocQ 27 [.int .i64 p, .int .i64 st] (queS x) (.int .i64 7) (queS x) := by
  have hk := k_page p st
  unfold okPg at hp
  dsimp only at hp
  rw [if_pos (by omega)] at hk
  refine LocQ.mk (loc_x hmix b27 rfl ?_)
  unfold c27
  ((repeat' ((try (conv => whnf)); first | (with_reducible first | refine run_cons ?_ | refine runq_cons ?_ | refine code_seq ?_ | refine code_reg ?_ | refine code_cond ?_ | refine run_nil ?_ | refine runq_nil ?_ | refine rund_op rfl ?_ | refine rund_nil ?_ | refine code_block ?_ | refine code_skip ?_ | refine code_exit ?_ | refine code_ret ?_ | refine code_range ?_ | refine rund_fast (by decide +kernel) ?_ | refine rund_slow (by decide +kernel) ?_ | refine br_tt ?_ | refine br_ff ?_ | refine br_n ?_ | refine br_and ?_ | refine br_or ?_ | refine br_t (by assumption) ?_ | refine br_f (by assumption) ?_ | refine eq_i64 (by omega) ?_ | refine el_tn ?_) | (with_reducible refine br_d ?_ ?_ <;> intro hsp <;> first | (exfalso; omega) | skip) | ((with_reducible refine ck_x ?_ ?_); focus (first | omega | rfl | assumption | decide | (simp only [List.length_map, List.length_cons, List.length_nil]; omega))) | (with_reducible first | refine eq_tn ?_ | refine eq_tn1 ?_ | refine eq_tn2 ?_ | refine eq_m1 ?_ | refine eq_m2 ?_ | refine eq_zm ?_ | refine eq_z ?_ | refine len_map ?_ | refine len_sl ?_ | refine len_nils ?_ | refine len_own' ?_ | refine len_isl ?_ | refine eq_u8 (by omega) ?_ | refine eq_u16 (by omega) ?_) | (with_reducible first | refine eq_rfl ?_ | refine ChkX.mk (by kernel_rfl) ?_ | refine code_q rfl ?_ | refine code_d (by decide +kernel) ?_ | refine end_go rfl ?_) | (refine cx_in hmix b38 rfl ?_; unfold c38) | refine cx_pure (hk) ?_ | refine qcx (hk) ?_ | refine dcx_pure (hk) ?_ | refine len_map ?_ | refine len_isl ?_ | refine el_of rfl rfl ?_ | refine del_own ?_ | refine del_own' rfl ?_ | refine as_go rfl ?_ | refine rd_go rfl ?_ | refine rg_end rfl ?_ | refine flat_ownX ?_ | (with_reducible refine br_b ?_ ?_ <;> intro hsp))) <;> (try (conv => whnf)))
  all_goals exact end_que (wk_int rfl) rfl rfl rfl rfl
set_option maxRecDepth 20000 in
theorem q_dirty_twice (h : GQ x) {p st : Int} (hp : okPg (p, st)) (hm : ∃ a, a ∈ x.pages ∧ a.1 = p) : LocQ 27 [.int .i64 p, .int .i64 st] (queS x) (.int .i64 8) (queS x) := by
  have hk := k_page p st
  have hp' := hp
  unfold okPg at hp'
  dsimp only at hp'
  rw [if_neg (by omega)] at hk
  obtain ⟨a, ha, rfl⟩ := hm
  obtain ⟨s, hs, rfl⟩ := List.mem_map.1 ha
  obtain ⟨p, hp1, hp2, hp3⟩ := h.vn hs
  rw [show (x.pg s).1 = ((p : Nat) : Int) from hp2] at *
  have g := qx_get (x := x) (pl := 1) hp1
  rw [hp3] at g
  refine LocQ.mk (loc_x hmix b27 rfl ?_)
  unfold c27
  ((repeat' ((try (conv => whnf)); first | (with_reducible first | refine run_cons ?_ | refine runq_cons ?_ | refine code_seq ?_ | refine code_reg ?_ | refine code_cond ?_ | refine run_nil ?_ | refine runq_nil ?_ | refine rund_op rfl ?_ | refine rund_nil ?_ | refine code_block ?_ | refine code_skip ?_ | refine code_exit ?_ | refine code_ret ?_ | refine code_range ?_ | refine rund_fast (by decide +kernel) ?_ | refine rund_slow (by decide +kernel) ?_ | refine br_tt ?_ | refine br_ff ?_ | refine br_n ?_ | refine br_and ?_ | refine br_or ?_ | refine br_t (by assumption) ?_ | refine br_f (by assumption) ?_ | refine eq_i64 (by omega) ?_ | refine el_tn ?_) | (with_reducible refine br_d ?_ ?_ <;> intro hsp <;> first | (exfalso; omega) | skip) | ((with_reducible refine ck_x ?_ ?_); focus (first | omega | rfl | assumption | decide | (simp only [List.length_map, List.length_cons, List.length_nil]; omega))) | (with_reducible first | refine eq_tn ?_ | refine eq_tn1 ?_ | refine eq_tn2 ?_ | refine eq_m1 ?_ | refine eq_m2 ?_ | refine eq_zm ?_ | refine eq_z ?_ | refine len_map ?_ | refine len_sl ?_ | refine len_nils ?_ | refine len_own' ?_ | refine len_isl ?_ | refine eq_u8 (by omega) ?_ | refine eq_u16 (by omega) ?_) | refine nthK_of (g) ?_ | (with_reducible first | refine eq_rfl ?_ | refine ChkX.mk (by kernel_rfl) ?_ | refine code_q rfl ?_ | refine code_d (by decide +kernel) ?_ | refine end_go rfl ?_) | (refine cx_in hmix b38 rfl ?_; unfold c38) | refine cx_pure (hk) ?_ | refine qcx (hk) ?_ | refine dcx_pure (hk) ?_ | refine len_map ?_ | refine len_isl ?_ | refine el_of rfl rfl ?_ | refine del_own ?_ | refine del_own' rfl ?_ | refine as_go rfl ?_ | refine rd_go rfl ?_ | refine rg_end rfl ?_ | refine flat_ownX ?_ | (with_reducible refine br_b ?_ ?_ <;> intro hsp))) <;> (try (conv => whnf)))
  all_goals exact end_que (wk_int rfl) rfl rfl rfl rfl
set_option maxRecDepth 20000 in
theorem q_dirty (h : GQ x) {p st : Int} (hp : okPg (p, st)) (hn : ∀ a, a ∈ x.pages → a.1 ≠ p) :
    ∃ x' X Y, GQ x' ∧ x'.age = x.age ∧ x'.ref = x.ref ∧ x'.keep = x.keep ∧ x.pages = X ++ Y ∧ x'.pages = X ++ (p, st) :: Y ∧ (∀ a, a ∈ X → ltP a (p, st)) ∧ (∀ a, a ∈ Y → ltP (p, st) a) ∧ LocQ 27 [.int .i64 p, .int .i64 st] (queS x) (.int .i64 0) (queS x') := by
  have hk := k_page p st
  have hp' := hp
  unfold okPg at hp'
  dsimp only at hp'
  rw [if_neg (by omega)] at hk
  obtain ⟨p, rfl⟩ := Int.eq_ofNat_of_zero_le hp'.1
  have h0 := h.new_page (show p < 1024 by omega) hn
  obtain ⟨x', X, Y, g1, r1, r2, r3, r4, r5, r6, r7, hl⟩ := q_put h hp h0
  refine ⟨x', X, Y, g1, r1, r2, r3, r4, r5, r6, r7, ?_⟩
  have g := qx_get (x := x) (pl := 1) (show p < 1024 by omega)
  rw [h0] at g
  refine LocQ.mk (loc_x hmix b27 rfl ?_)
  unfold c27
  ((repeat' ((try (conv => whnf)); first | (with_reducible first | refine run_cons ?_ | refine runq_cons ?_ | refine code_seq ?_ | refine code_reg ?_ | refine code_cond ?_ | refine run_nil ?_ | refine runq_nil ?_ | refine rund_op rfl ?_ | refine rund_nil ?_ | refine code_block ?_ | refine code_skip ?_ | refine code_exit ?_ | refine code_ret ?_ | refine code_range ?_ | refine rund_fast (by decide +kernel) ?_ | refine rund_slow (by decide +kernel) ?_ | refine br_tt ?_ | refine br_ff ?_ | refine br_n ?_ | refine br_and ?_ | refine br_or ?_ | refine br_t (by assumption) ?_ | refine br_f (by assumption) ?_ | refine eq_i64 (by omega) ?_ | refine el_tn ?_) | (with_reducible refine br_d ?_ ?_ <;> intro hsp <;> first | (exfalso; omega) | skip) | ((with_reducible refine ck_x ?_ ?_); focus (first | omega | rfl | assumption | decide | (simp only [List.length_map, List.length_cons, List.length_nil]; omega))) | (with_reducible first | refine eq_tn ?_ | refine eq_tn1 ?_ | refine eq_tn2 ?_ | refine eq_m1 ?_ | refine eq_m2 ?_ | refine eq_zm ?_ | refine eq_z ?_ | refine len_map ?_ | refine len_sl ?_ | refine len_nils ?_ | refine len_own' ?_ | refine len_isl ?_ | refine eq_u8 (by omega) ?_ | refine eq_u16 (by omega) ?_) | refine nthK_of (g) ?_ | (with_reducible first | refine eq_rfl ?_ | refine ChkX.mk (by kernel_rfl) ?_ | refine code_q rfl ?_ | refine code_d (by decide +kernel) ?_ | refine end_go rfl ?_) | (refine cx_in hmix b38 rfl ?_; unfold c38) | refine cx_pure (hk) ?_ | refine qcx (hk) ?_ | refine dcx_pure (hk) ?_ | refine cx_que hl rfl rfl rfl rfl (by decide) (by simp [plain_val2]) plain_none rfl ?_ | refine len_map ?_ | refine len_isl ?_ | refine el_of rfl rfl ?_ | refine del_own ?_ | refine del_own' rfl ?_ | refine as_go rfl ?_ | refine rd_go rfl ?_ | refine rg_end rfl ?_ | refine flat_ownX ?_ | (with_reducible refine br_b ?_ ?_ <;> intro hsp))) <;> (try (conv => whnf)))
  all_goals exact end_que (wk_int rfl) rfl rfl rfl rfl
end
end Go.Proofs.Ytggkpagngnnjjaa
