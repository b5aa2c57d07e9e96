/-
 New and Load.
 Systems in which frames are committed.
 The law's awake.
 The law's ready: a table and a system.
-/
import Derived.Test.YtccbhbdbmmkcdaaGreatBa
set_option linter.unusedSimpArgs false
set_option linter.unusedVariables false
namespace Go.Pol
open Go.Am
theorem chain {α : Type} {P : Nat → α → Prop} {S : Nat → α → α → Prop} {n : Nat} (x0 : α) (h0 : P 0 x0) (hs : ∀ k x, k < n → P k x → ∃ y, P (k + 1) y ∧ S k x y) : ∃ f : Nat → α, f 0 = x0 ∧ (∀ k, k ≤ n → P k (f k)) ∧ ∀ k, k < n → S k (f k) (f (k + 1)) := by
 classical
 refine ⟨fun k => Nat.rec x0 (fun k x => if h : k < n ∧ P k x then Classical.choose (hs k x h.1 h.2) else x) k, rfl, ?_, ?_⟩
 ·intro k
  induction k with
  | zero => exact fun _ => h0
  | succ k ih =>
   intro hk
   have h1 := ih (by omega)
   show P (k + 1) (dite _ _ _)
   rw [dif_pos ⟨by omega, h1⟩]
   exact (Classical.choose_spec (hs k _ (by omega) h1)).1
 ·have key : ∀ k, k ≤ n → P k (Nat.rec x0 (fun k x => if h : k < n ∧ P k x then Classical.choose (hs k x h.1 h.2) else x) k) := by
   intro k
   induction k with
   | zero => exact fun _ => h0
   | succ k ih =>
    intro hk
    have h1 := ih (by omega)
    show P (k + 1) (dite _ _ _)
    rw [dif_pos ⟨by omega, h1⟩]
    exact (Classical.choose_spec (hs k _ (by omega) h1)).1
  intro k hk
  have h1 := key k (by omega)
  show S k _ (dite _ _ _)
  rw [dif_pos ⟨hk, h1⟩]
  exact (Classical.choose_spec (hs k _ hk h1)).2
theorem take_ne {L : List Vw} (h : srt L) {k : Nat} (hk : k < L.length) : ∀ u ∈ L.take k, ¬ atV ((nth dV L k).1, (nth dV L k).2.1) u := fun u hu ha => by
 obtain ⟨i, hi, rfl⟩ := List.mem_iff_getElem.1 hu
 rw [List.length_take] at hi
 have h1 := (List.pairwise_iff_getElem.1 h) i k (by omega) hk (by omega)
 rw [List.getElem_take, nth_get hk] at ha
 unfold bef at h1; unfold atV at ha; omega
end Go.Pol
namespace Go.Proofs.YtccbhbdbmmkcdaaGreat.Sh
open Go Go.Am Go.Pol
theorem wx_Da {p q : Prop} (hq : q) (h : HidP q → p := by (intro hQz; ((repeat' ((try (conv => whnf)); first | (with_reducible first | refine run_cons ?_ | refine runq_cons ?_ | refine code_seq ?_ | refine code_reg ?_ | refine code_cond ?_ | refine run_nil ?_ | refine runq_nil ?_ | refine rund_op rfl ?_ | refine rund_nil ?_ | refine code_block ?_ | refine code_skip ?_ | refine code_exit ?_ | refine code_ret ?_ | refine code_range ?_ | refine rund_fast (by decide +kernel) ?_ | refine rund_slow (by decide +kernel) ?_ | refine br_tt ?_ | refine br_ff ?_ | refine br_n ?_ | refine br_and ?_ | refine br_or ?_ | refine br_t (by assumption) ?_ | refine br_f (by assumption) ?_ | refine eq_i64 (by omega) ?_ | refine el_tn ?_) | ((with_reducible refine br_dt ?_ ?_); focus omega) | ((with_reducible refine br_df ?_ ?_); focus omega) | ((with_reducible apply br_dq hQz) <;> (try intro hsp hQz)) | ((with_reducible refine ck_x ?_ ?_); focus (first | omega | rfl | assumption | decide | (simp only [List.length_map, List.length_cons, List.length_nil]; omega))) | (with_reducible first | refine eq_tn ?_ | refine eq_tn1 ?_ | refine eq_tn2 ?_ | refine eq_m1 ?_ | refine eq_m2 ?_ | refine eq_zm ?_ | refine eq_z ?_ | refine len_map ?_ | refine len_sl ?_ | refine len_nils ?_ | refine len_own' ?_ | refine len_isl ?_ | refine eq_u8 (by omega) ?_ | refine eq_u16 (by omega) ?_) | (with_reducible first | refine eq_rfl ?_ | refine ChkX.mk (by kernel_rfl) ?_ | refine code_q rfl ?_ | refine code_d (by decide +kernel) ?_ | refine end_go rfl ?_) | refine cx_new (n := 2000) (m := 64) (by decide) (by decide) (by decide) (by decide) ?_ | refine len_map ?_ | refine len_isl ?_ | refine el_of rfl rfl ?_ | refine del_own ?_ | refine del_own' rfl ?_ | refine as_go rfl ?_ | refine rd_go rfl ?_ | refine rg_end rfl ?_ | refine flat_ownX ?_ | refine EqLX.mk ?_ | ((with_reducible apply br_bq hQz) <;> (try intro hsp hQz)) | exact hQz.out)) <;> (try (conv => whnf))))) : p := h ⟨hq⟩
def T0 : TS := ⟨2000, 64, fun _ => z0, fun _ => w0, fun _ => w0, fun _ => b0, fun _ => [], S0 2000 64, fun _ => dV, [], fun _ => 0⟩
theorem tok_0 : TOk [] T0 := ⟨rfl, rfl, good_0 (by decide) (by decide) (by decide), fun a s hs => (by cases hs), fun a => rfl, List.nodup_nil, fun p s => ⟨fun h => (by cases h), fun h => (by cases h.1)⟩, rfl, fun f => rfl, fun v hv => (by cases hv), List.Pairwise.nil, Nat.zero_le _⟩
theorem tab_0 {p m : Nat} : (.ptr p 0 :: .mapr m :: List.replicate 1024 (.int .i64 0) : List AV) = tabC p m fun _ => 0 := by
 unfold tabC
 congr 2
 refine List.ext_getElem? fun i => ?_
 by_cases h : i < 1024
 ·rw [List.getElem?_replicate, if_pos h, memA_get h]; rfl
 ·rw [List.getElem?_eq_none (by rw [List.length_replicate]; omega), List.getElem?_eq_none (by rw [memA_len]; omega)]
theorem end_newT {top : Bool} {h : Hp} {x r : AV} {t : TS} (a b c d e : Nat) {cs : List AV} (hd : nodB [a, b, c, d, e] = true)
  (hr : SubH (rn [(0, a), (1, b), (2, c), (3, d), (4, e)]) h ⟨tabS t, 5⟩ → WkV Tryz.prog (rn [(0, a), (1, b), (2, c), (3, d), (4, e)]) h ⟨tabS t, 5⟩ x r) (hc : cs = tabC b e t.C) (h0 : lk h.l a = some (.cells cs)) (h1 : lk h.l b = some (.cells [.sl c 0 t.n t.n 7, .sl d 0 t.m t.m 3, .int .i64 (t.S.fr : Nat)])) (h2 : lk h.l c = some (.cells (cellsB t.n t.V t.W t.V3 t.V4 t.S.L t.S.N t.S.P))) (h3 : lk h.l d = some (.cells (endsB t.m t.S.A t.S.B t.S.C))) (h4 : lk h.l e = some (.maps (t.E.map keyE))) :
  EndX top Tryz.prog 0 h x (fun r' h' => r' = r ∧ h' = ⟨tabS t, 5⟩) := by
 subst hc
 have hs : SubH (rn [(0, a), (1, b), (2, c), (3, d), (4, e)]) h ⟨tabS t, 5⟩ := fun i o hi => by
  simp only [tabS, lk] at hi
  split at hi
  ·rename_i e; subst e; exact ⟨_, h0⟩
  ·split at hi
   ·rename_i e; subst e; exact ⟨_, h1⟩
   ·split at hi
    ·rename_i e; subst e; exact ⟨_, h2⟩
    ·split at hi
     ·rename_i e; subst e; exact ⟨_, h3⟩
     ·split at hi
      ·rename_i e; subst e; exact ⟨_, h4⟩
      ·cases hi
 refine end_loc [(0, a), (1, b), (2, c), (3, d), (4, e)] rfl (Nat.zero_le _) (oneOf_of ?_) (hr hs) ?_ ⟨rfl, rfl⟩
 ·exact hd
 ·exact wko_tab hs (show 0 < 5 by decide) h0 rfl (show 1 < 5 by decide) rfl (show 4 < 5 by decide)
   (wko_cells (show 1 < 5 by decide) h1 (wkl_cons (wk_sl rfl (show 2 < 5 by decide) rfl (Nat.le_refl _) (Nat.le_refl _)) (wkl_cons (wk_sl rfl (show 3 < 5 by decide) rfl (Nat.le_refl _) (Nat.le_refl _)) (wkl_cons (wk_int rfl) wkl_nil)))
   (wko_plain hs (show 2 < 5 by decide) h2 rfl cells_plain (wko_plain hs (show 3 < 5 by decide) h3 rfl ends_plain (wko_maps hs (show 4 < 5 by decide) h4 rfl key_plain wko_nil))))
structure LocNT (f : Nat) (avs : List AV) (t : TS) : Prop where
 out : LocC Tryz.prog G0 f avs [] 0 fun x h => x = .ptr 0 0 ∧ h = ⟨tabS t, 5⟩
 pa : ∀ x ∈ avs, Plain x
structure LocLT (f : Nat) (avs : List AV) (t : TS) : Prop where
 out : LocC Tryz.prog G0 f avs [] 0 fun x h => x = .tup [.ptr 0 0, .int .i64 0] ∧ h = ⟨tabS t, 5⟩
 pa : ∀ x ∈ avs, Plain x
def tabN (t : TS) (a b c d e : Nat) : List (Nat × AObj) := [(a, .cells (tabC b e t.C)), (b, .cells [.sl c 0 t.n t.n 7, .sl d 0 t.m t.m 3, .int .i64 (t.S.fr : Nat)]), (c, .cells (cellsB t.n t.V t.W t.V3 t.V4 t.S.L t.S.N t.S.P)), (d, .cells (endsB t.m t.S.A t.S.B t.S.C)), (e, .maps (t.E.map keyE))]
theorem rn_tabC {p : Nat → Nat → Prop} {i j i' j' : Nat} {C : Nat → Nat} (h : p i i') (h' : p j j') : RnL p (tabC i j C) (tabC i' j' C) := ⟨rn_ptr h, rn_map h', rnl_plain cnt_plain⟩
theorem cx_NT {f nx : Nat} {avs : List AV} {t : TS} {l : List (Nat × AObj)} {K : AV → Hp → Prop} (hc : LocNT f avs t) (hk : K (.ptr nx 0) ⟨tabN t nx (nx + 1) (nx + 2) (nx + 3) (nx + 4) ++ l, nx + 5⟩) : CallX Tryz.prog G0 (.fn f [] []) avs ⟨l, nx⟩ K := by
 have k0 : back [] nx 0 nx := rfl
 have k1 : back [] nx 1 (nx + 1) := rfl
 have k2 : back [] nx 2 (nx + 2) := rfl
 have k3 : back [] nx 3 (nx + 3) := rfl
 have k4 : back [] nx 4 (nx + 4) := rfl
 refine cx_loc (r' := .ptr nx 0) (l1 := tabN t nx (nx + 1) (nx + 2) (nx + 3) (nx + 4)) [] hc.out plainG rfl .nil (by simpa using rnl_plain hc.pa) (by simp) (rn_ptr k0)
  (.cons k0 (rn_tabC k1 k4) (.cons k1 ⟨rn_sl k2, rn_sl k3, rn_plain plain_int, trivial⟩ (.cons k2 rnl_cells (.cons k3 rnl_ends (.maps k4 key_plain .nil))))) (filtK_nil hk)
set_option maxRecDepth 20000 in
theorem n_New : LocNT 6 [] T0 := by
 refine LocNT.mk (loc_x hmix b6 rfl ?_) fun x hx => by cases hx
 unfold c6
 (refine wx_Da ?_; repeat' (first | with_reducible refine And.intro ?_ ?_ | intro hsp))
 exact end_newT 4 0 1 2 3 rfl (fun hs => wk_ptr rfl (by decide)) tab_0 rfl rfl rfl rfl rfl
section
variable {L : List Vw} {R : List Rw}
end
end Go.Proofs.YtccbhbdbmmkcdaaGreat.Sh
namespace Go.Pol
open Go.Am
structure SyOk (fs : List Nat) (s : Sy) : Prop where
 good : GoodS s
 nol : s.l = []
 nog : ∀ p, s.M p = false
 kind : ∀ p, p < 1024 → s.K p = if p ∈ fs then 2 else 0
 byte : ∀ p j, 0 ≤ s.B p j ∧ s.B p j < 256
theorem sy_new : SyOk [] (Sy.new []) := ⟨good_new rfl, rfl, fun _ => rfl, fun p _ => rfl, fun _ _ => ⟨Int.le_refl _, by show (0 : Int) < 256; decide⟩⟩
theorem isR_nil {l : List Rl} {C : Nat → Int} {k : Nat} (h : l = []) : isR l C k = false := by
 subst h; unfold isR; split
 ·rfl
 ·rfl
theorem okR_1 {K : Nat → Int} {M : Nat → Bool} {f : Nat} {v : Int} : okR K M f 1 v ↔ K f = v ∧ M f = false := by
 unfold okR
 constructor
 ·intro h; exact h 0 (by omega)
 ·intro h i hi; obtain rfl : i = 0 := by omega
  exact h
theorem chg_1 {s : Sy} {f : Nat} {v w : Int} {k : Nat} (hf : f < 1024) (hl : s.l = []) : s.chg (f : Nat) 1 v w k = if s.K f = v ∧ s.M f = false then (0, { s.ref k with K := setR s.K f 1 w, B := setP s.B f 1 }) else (9, s) := by
 unfold Sy.chg
 rw [if_neg (by omega), Int.toNat_natCast, show Int.toNat 1 = 1 from rfl, isR_nil hl]
 by_cases h : s.K f = v ∧ s.M f = false
 ·rw [if_pos (okR_1.2 h), if_pos h]; rfl
 ·rw [if_neg fun e => h (okR_1.1 e), if_neg h]
theorem open_in {fs : List Nat} {s : Sy} (h : SyOk fs s) {f : Nat} (hf : f < 1024) (hm : f ∈ fs) : s.chg (f : Nat) 1 0 1 0 = (9, s) ∧ s.chg (f : Nat) 1 1 2 2 = (9, s) := by
 have hk := h.kind f hf
 rw [if_pos hm] at hk
 rw [chg_1 hf h.nol, chg_1 hf h.nol, if_neg (by omega), if_neg (by omega)]
 exact ⟨rfl, rfl⟩
theorem sy_same {fs gs : List Nat} {s : Sy} (h : SyOk fs s) (e : ∀ p, p ∈ gs ↔ p ∈ fs) : SyOk gs s := ⟨h.good, h.nol, h.nog, fun p hp => by rw [h.kind p hp]; by_cases hm : p ∈ fs <;> simp [e, hm], h.byte⟩
theorem setR_1 {K : Nat → Int} {f : Nat} {v : Int} {p : Nat} : setR K f 1 v p = if p = f then v else K p := by unfold setR; by_cases h : p = f <;> simp [h] <;> omega
theorem setP_1 {B : Nat → Nat → Int} {f : Nat} {p : Nat} : setP B f 1 p = if p = f then fun _ => 0 else B p := by
 unfold setP
 by_cases h : p = f
 ·rw [if_pos (by omega), if_pos h]
 ·rw [if_neg (by omega), if_neg h]
theorem open_new {fs : List Nat} {s : Sy} (h : SyOk fs s) {f : Nat} (hf : f < 1024) (hm : f ∉ fs) : ∃ s1 s2, s.chg (f : Nat) 1 0 1 0 = (0, s1) ∧ GoodS s1 ∧ s1.chg (f : Nat) 1 1 2 2 = (0, s2) ∧ SyOk (fs ++ [f]) s2 ∧ (∀ p, p ≠ f → s2.B p = s.B p) ∧ s2.B f = fun _ => 0 := by
 have hk := h.kind f hf
 rw [if_neg hm] at hk
 have e1 := chg_1 (s := s) (v := 0) (w := 1) (k := 0) hf h.nol
 rw [if_pos ⟨hk, h.nog f⟩] at e1
 have g1 : GoodS (s.chg (f : Nat) 1 0 1 0).2 := good_chg h.good (by omega)
 rw [e1] at g1
 generalize hs1 : ({ s.ref 0 with K := setR s.K f 1 1, B := setP s.B f 1 } : Sy) = s1 at *
 have l1 : s1.l = [] := by rw [← hs1]; exact h.nol
 have k1 : s1.K f = 1 := by rw [← hs1]; show setR s.K f 1 1 f = 1; rw [setR_1, if_pos rfl]
 have m1 : ∀ p, s1.M p = false := by rw [← hs1]; exact h.nog
 have e2 := chg_1 (s := s1) (v := 1) (w := 2) (k := 2) hf l1
 rw [if_pos ⟨k1, m1 f⟩] at e2
 have g2 : GoodS (s1.chg (f : Nat) 1 1 2 2).2 := good_chg g1 (by omega)
 rw [e2] at g2
 have hB : ∀ p, ({ s1.ref 2 with K := setR s1.K f 1 2, B := setP s1.B f 1 } : Sy).B p = if p = f then fun _ => 0 else s.B p := fun p => by
  show setP s1.B f 1 p = _
  rw [setP_1]
  by_cases hp : p = f
  ·rw [if_pos hp, if_pos hp]
  ·rw [if_neg hp, if_neg hp, ← hs1]; show setP s.B f 1 p = _; rw [setP_1, if_neg hp]
 refine ⟨s1, _, e1, g1, e2, ⟨g2, l1, m1, fun p hp => ?_, fun p j => ?_⟩, fun p hp => by rw [hB, if_neg hp], by rw [hB, if_pos rfl]⟩
 ·show setR s1.K f 1 2 p = _
  rw [setR_1]
  by_cases he : p = f
  ·rw [if_pos he, if_pos (by simp [he])]
  ·rw [if_neg he, ← hs1]
   show setR s.K f 1 1 p = _
   rw [setR_1, if_neg he, h.kind p hp]
   by_cases hm2 : p ∈ fs <;> simp [hm2, he]
 ·rw [hB]
  split
  ·exact ⟨Int.le_refl _, by show (0 : Int) < 256; decide⟩
  ·exact h.byte p j
theorem open_any0 {fs : List Nat} {s : Sy} (h : SyOk fs s) (hz : ∀ p j, s.B p j = 0) {f : Nat} (hf : f < 1024) : ∃ s2, (SyOk (fs ++ [f]) s2 ∧ ∀ p j, s2.B p j = 0) ∧ ∃ e1 s1 e2, s.chg (f : Nat) 1 0 1 0 = (e1, s1) ∧ GoodS s1 ∧ s1.chg (f : Nat) 1 1 2 2 = (e2, s2) := by
 by_cases hm : f ∈ fs
 ·obtain ⟨h1, h2⟩ := open_in h hf hm
  exact ⟨s, ⟨sy_same h fun p => by simp only [List.mem_append, List.mem_singleton]; exact ⟨fun hp => hp.elim id fun e => e ▸ hm, .inl⟩, hz⟩, _, _, _, h1, h.good, h2⟩
 ·obtain ⟨s1, s2, h1, h2, h3, h4, h5, h6⟩ := open_new h hf hm
  refine ⟨s2, ⟨h4, fun p j => ?_⟩, _, _, _, h1, h2, h3⟩
  by_cases hp : p = f
  ·rw [hp, h6]
  ·rw [h5 p hp]; exact hz p j
theorem sy_read {fs : List Nat} {s : Sy} (h : SyOk fs s) {p j : Nat} (hp : p < 1024) (hm : p ∈ fs) (hj : j < 64) : s.read ((p * 64 + j : Nat) : Int) = (s.B p j, 0) := by
 unfold Sy.read
 have hk := h.kind p hp
 rw [if_pos hm] at hk
 rw [if_neg (by omega), Int.toNat_natCast, show (p * 64 + j) / 64 = p by omega, show (p * 64 + j) % 64 = j by omega, if_pos hk]
theorem sy_write {fs : List Nat} {s : Sy} (h : SyOk fs s) {p j : Nat} (hp : p < 1024) (hm : p ∈ fs) (hj : j < 64) {b : Int} (hb : 0 ≤ b ∧ b < 256) : ∃ s', s.write ((p * 64 + j : Nat) : Int) b = (0, s') ∧ SyOk fs s' ∧ ∀ q i, s'.B q i = if q = p ∧ i = j then b else s.B q i := by
 have hg := good_write (a := ((p * 64 + j : Nat) : Int)) (b := b) h.good
 unfold Sy.write at hg ⊢
 have hk := h.kind p hp
 rw [if_pos hm] at hk
 rw [if_neg (by omega), Int.toNat_natCast, show (p * 64 + j) / 64 = p by omega, show (p * 64 + j) % 64 = j by omega, if_pos hk] at hg ⊢
 have hB : ∀ q i, updP s.B p (updI (s.B p) j b) q i = if q = p ∧ i = j then b else s.B q i := fun q i => by
  unfold updP
  by_cases hq : q = p
  ·subst hq
   rw [if_pos rfl]
   unfold updI
   by_cases hi : i = j <;> simp [hi]
  ·rw [if_neg hq, if_neg fun e => hq e.1]
 refine ⟨_, rfl, ⟨hg, h.nol, h.nog, h.kind, fun q i => ?_⟩, hB⟩
 show 0 ≤ updP s.B p _ q i ∧ updP s.B p _ q i < 256
 rw [hB]
 split
 ·exact hb
 ·exact h.byte q i
end Go.Pol
namespace Go.Proofs.YtccbhbdbmmkcdaaGreat.Sh
open Go Go.Am Go.Pol
theorem plx_Db {p : Prop} (h : p := by ((first | assumption | exact plain_int | exact plain_bool | exact plain_undef | exact plain_nils | exact plain_nilp | exact plain_nilf | exact plain_str | with_reducible apply plain_int | with_reducible apply plain_bool | with_reducible apply plain_vwC | with_reducible apply plain_vwE | with_reducible apply plain_vs | with_reducible apply plain_vsA | fail); first | done | fail)) : p := h
theorem prx_Db {p : Prop} (h : p := by (((repeat' (first | exact plain_all0 | refine plain_all2 ?_ ?_ | exact plain_int | first | assumption | exact plain_int | exact plain_bool | exact plain_undef | exact plain_nils | exact plain_nilp | exact plain_nilf | exact plain_str | with_reducible apply plain_int | with_reducible apply plain_bool | with_reducible apply plain_vwC | with_reducible apply plain_vwE | with_reducible apply plain_vs | with_reducible apply plain_vsA))); first | done | fail)) : p := h
theorem ppx_Db {p : Prop} (h : p := by ((first | with_reducible assumption | with_reducible apply cells_plain | with_reducible apply ends_plain | with_reducible apply cnt_plain | with_reducible apply memI_plain _ _ | with_reducible apply vw_plain | with_reducible apply plain_flat vw_plain' | with_reducible apply nat_plain | with_reducible apply a_plain | with_reducible apply plain_map (fun _ => plain_int) | with_reducible apply plain_map (fun _ => plain_bool) | exact prx_Db | fail); first | done | fail)) : p := h
theorem wvx_Db {p : Prop} (h : p := by ((first | exact wk_undef | exact wk_int (by first | rfl | omega | (dsimp only; omega)) | exact wk_bool rfl | exact wk_ptr rfl (by first | decide | simp | omega) | exact wk_sl rfl (by first | decide | simp | omega) (by first | rfl | omega | simp) (by first | omega | simp) (by first | omega | simp) | exact wk_own rfl (by first | decide | simp | omega) | exact wk_nil0 (by first | rfl | simp) | exact wk_slown rfl (by first | decide | omega | (simp; done)) (by first | omega | (simp; done)) (by first | rfl | omega | (simp; done) | (simp; omega)) | exact wk_plain hs plx_Db | (with_reducible refine wk_fn ?_ ?_ <;> repeat' (first | with_reducible exact wkl_nil | with_reducible refine wkl_cons ?_ ?_ | exact wk_ptr rfl (by first | decide | simp | omega))) | (with_reducible refine wk_agg ?_; repeat' (first | with_reducible exact wkl_nil | with_reducible refine wkl_cons ?_ ?_ | exact wk_int (by first | rfl | omega | (dsimp only; omega)) | exact wk_bool rfl)) | exact wk_yld rfl (by first | decide | simp | omega) | fail); first | done | fail)) : p := h
theorem wkx_Db {p : Prop} (h : p := by (refine weak_s (by exact oneOf_of rfl) (by exact subH_of rfl) (by intro hs; (repeat' ((try (conv => whnf)); first | with_reducible exact True.intro | with_reducible refine And.intro ?_ ?_ | (with_reducible refine WkX.mk ?_; first | exact wvx_Db | fail)))) (by intro hs; (try dsimp only); (repeat' (first | with_reducible exact wko_nil | refine wko_plain hs (by first | decide | omega | simp) rfl (by first | rfl) (by (first | exact ppx_Db | fail | ((refine plain_app ?_ ?_) <;> (first | exact ppx_Db | fail)))) ?_ | refine wko_cells (by first | decide | omega | simp) rfl (by repeat' (first | with_reducible exact wkl_nil | with_reducible refine wkl_cons ?_ ?_ | (first | exact wvx_Db | fail))) ?_ | refine wko_loop (by first | decide | omega | simp) rfl (by ((try subst hF); (try subst hF2); exact wkl_sd (wkf_sget (by (repeat' ((try (conv => whnf)); first | with_reducible exact True.intro | with_reducible refine And.intro ?_ ?_ | (with_reducible refine WkX.mk ?_; first | exact wvx_Db | fail))))))) ?_ | exact wko_nil))))) : p := h
theorem wx_Db {p q : Prop} (hq : q) (h : HidP q → p := by (intro hQz; ((repeat' ((try (conv => whnf)); first | (with_reducible first | refine run_cons ?_ | refine runq_cons ?_ | refine code_seq ?_ | refine code_reg ?_ | refine code_cond ?_ | refine run_nil ?_ | refine runq_nil ?_ | refine rund_op rfl ?_ | refine rund_nil ?_ | refine code_block ?_ | refine code_skip ?_ | refine code_exit ?_ | refine code_ret ?_ | refine code_range ?_ | refine rund_fast (by decide +kernel) ?_ | refine rund_slow (by decide +kernel) ?_ | refine br_tt ?_ | refine br_ff ?_ | refine br_n ?_ | refine br_and ?_ | refine br_or ?_ | refine br_t (by assumption) ?_ | refine br_f (by assumption) ?_ | refine eq_i64 (by omega) ?_ | refine el_tn ?_) | ((with_reducible refine br_dt ?_ ?_); focus omega) | ((with_reducible refine br_df ?_ ?_); focus omega) | ((with_reducible apply br_dq hQz) <;> (try intro hsp hQz)) | ((with_reducible refine ck_x ?_ ?_); focus (first | omega | rfl | assumption | decide | (simp only [List.length_map, List.length_cons, List.length_nil]; omega))) | (with_reducible first | refine eq_tn ?_ | refine eq_tn1 ?_ | refine eq_tn2 ?_ | refine eq_m1 ?_ | refine eq_m2 ?_ | refine eq_zm ?_ | refine eq_z ?_ | refine len_map ?_ | refine len_sl ?_ | refine len_nils ?_ | refine len_own' ?_ | refine len_isl ?_ | refine eq_u8 (by omega) ?_ | refine eq_u16 (by omega) ?_) | refine nthK_of (g) ?_ | (with_reducible first | refine eq_rfl ?_ | refine ChkX.mk (by kernel_rfl) ?_ | refine code_q rfl ?_ | refine code_d (by decide +kernel) ?_ | refine end_go rfl ?_) | refine cx_locN (by assumption) ?_ | refine cx_locS (by assumption) rfl (by omega) ?_ | refine len_map ?_ | refine len_isl ?_ | refine el_of rfl rfl ?_ | refine del_own ?_ | refine del_own' rfl ?_ | refine as_go rfl ?_ | refine rd_go rfl ?_ | refine rg_end rfl ?_ | refine flat_ownX ?_ | refine EqLX.mk ?_ | ((with_reducible apply br_bq hQz) <;> (try intro hsp hQz)) | exact hQz.out)) <;> (try (conv => whnf))))) : p := h ⟨hq⟩
def natC (n : Nat) : AV := .int .i64 (n : Nat)
theorem nat_plain {l : List Nat} : ∀ x ∈ l.map natC, Plain x := fun x hx => by
 obtain ⟨n, _, rfl⟩ := List.mem_map.1 hx; exact plain_int
theorem nat_at {l : List Nat} {i : Nat} (h : i < l.length) : (l.map natC)[i]? = some (.int .i64 (nth 0 l i : Nat)) := by
 rw [List.getElem?_map, List.getElem?_eq_getElem h, nth_get h]; rfl
theorem sy_chain (fs : List Nat) (hf : ∀ f ∈ fs, f < 1024) : ∃ S : Nat → Sy, S 0 = Sy.new [] ∧ (∀ k, k ≤ fs.length → SyOk (fs.take k) (S k) ∧ ∀ p j, (S k).B p j = 0) ∧ ∀ k, k < fs.length → ∃ e1 s1 e2, (S k).chg (nth 0 fs k : Nat) 1 0 1 0 = (e1, s1) ∧ GoodS s1 ∧ s1.chg (nth 0 fs k : Nat) 1 1 2 2 = (e2, S (k + 1)) := by
 refine chain (n := fs.length) (P := fun k s => SyOk (fs.take k) s ∧ ∀ p j, s.B p j = 0) (S := fun k s s' => ∃ e1 s1 e2, s.chg (nth 0 fs k : Nat) 1 0 1 0 = (e1, s1) ∧ GoodS s1 ∧ s1.chg (nth 0 fs k : Nat) 1 1 2 2 = (e2, s')) (Sy.new []) ⟨by rw [List.take_zero]; exact sy_new, fun _ _ => rfl⟩ fun k s hk hs => ?_
 obtain ⟨s2, h1, h2⟩ := open_any0 hs.1 hs.2 (hf _ (nth_mem (d := 0) hk))
 rw [← take_nth hk] at h1
 exact ⟨s2, h1, h2⟩
structure LocSN (f : Nat) (cs : List AV) (n : Nat) (ds : List AV) : Prop where
 out : LocC Tryz.prog G0 f [.sl 0 0 n n 1] [(0, .cells cs)] 1 fun x h1 => x = .ptr 1 0 ∧ h1 = ⟨[(0, .cells cs), (1, .cells ds)], 2⟩
 pc : ∀ x ∈ cs, Plain x
 pd : ∀ x ∈ ds, Plain x
theorem cx_SN {f n : Nat} {cs ds : List AV} {a nx : Nat} {l : List (Nat × AObj)} {K : AV → Hp → Prop} (hc : LocSN f cs n ds) (hl0 : lk l a = some (.cells cs)) (hlt : a < nx) (hk : filtK [a] l fun l2 => K (.ptr nx 0) ⟨[(a, .cells cs), (nx, .cells ds)] ++ l2, nx + 1⟩) : CallX Tryz.prog G0 (.fn f [] []) [.sl a 0 n n 1] ⟨l, nx⟩ K := by
 have e0 : enter [a] a 0 := rfl
 have k0 : back [a] nx 0 a := rfl
 have k1 : back [a] nx 1 nx := rfl
 refine cx_loc (r' := .ptr nx 0) (l1 := [(a, .cells cs), (nx, .cells ds)]) [a] hc.out plainG rfl (.cons e0 hl0 (rnl_plain hc.pc) .nil) ?_ (by intro x hx; simp only [List.mem_cons, List.not_mem_nil, or_false] at hx; omega) (rn_ptr k1) (.cons k0 (rnl_plain hc.pc) (.cons k1 (rnl_plain hc.pd) .nil)) hk
 simp only [List.nil_append, List.append_nil]
 exact ⟨rn_sl e0, trivial⟩
theorem end_SN {top : Bool} {h : Hp} {cs ds : List AV} (h0 : lk h.l 0 = some (.cells cs)) (h1 : lk h.l 1 = some (.cells ds)) (pc : ∀ x ∈ cs, Plain x) (pd : ∀ x ∈ ds, Plain x) : EndX top Tryz.prog 1 h (.ptr 1 0) fun x h1 => x = .ptr 1 0 ∧ h1 = ⟨[(0, .cells cs), (1, .cells ds)], 2⟩ := by
 have hs : SubH (rn []) h ⟨[(0, .cells cs), (1, .cells ds)], 2⟩ := fun i o hi => by
  simp only [lk] at hi
  show ∃ o', lk h.l i = some o'
  split at hi
  ·rename_i e; subst e; exact ⟨_, h0⟩
  ·split at hi
   ·rename_i e; subst e; exact ⟨_, h1⟩
   ·cases hi
 exact end_loc [] rfl (by decide) (oneOf_of rfl) (wk_ptr rfl (show 1 < 2 by decide)) (wko_plain hs (show 0 < 2 by decide) h0 rfl pc (wko_plain hs (show 1 < 2 by decide) h1 rfl pd wko_nil)) ⟨rfl, rfl⟩
set_option maxHeartbeats 1600000 in
theorem l_system0 (fs : List Nat) (hf : ∀ f ∈ fs, f < 1024) (hl : fs.length ≤ 1000) : ∃ s, (SyOk fs s ∧ ∀ p j, s.B p j = 0) ∧ LocSN 5 (fs.map natC) fs.length s.a := by
 obtain ⟨S, hS0, hS, hst⟩ := sy_chain fs hf
 refine ⟨S fs.length, by have := hS _ (Nat.le_refl _); rwa [List.take_length] at this, LocSN.mk (loc_x hmix b5 rfl ?_) nat_plain a_plain⟩
 unfold c5
 have hnew := n_new
 rw [← hS0] at hnew
 (refine wx_Db ?_; repeat' (first | with_reducible refine And.intro ?_ ?_ | intro hsp))
 (refine loop_x [0] (fun (i : Nat) => [(3, .ptr 1 0), (5, .int .i64 (i : Nat))]) (fun (i : Nat) => ⟨[(0, .cells (fs.map natC)), (1, .cells (S i).a)], 2⟩) (fun (i : Nat) => i ≤ fs.length) (fun (i : Nat) => fs.length - i) (0) [] rfl (fun _ => by first | exact Nat.zero_le _ | (dsimp only; omega)) ?_ (by ((try (conv => whnf)); exact wkx_Db)) ?_)
 ·exact Nat.zero_le _
 intro i hi
 by_cases hil : i < fs.length
 ·obtain ⟨e1, s1, e2, h1, h2, h3⟩ := hst i hil
  have g := nat_at hil
  have c1 := p_reserve (a := (nth 0 fs i : Nat)) (n := 1) (hS i hi).1.good
  have c2 := p_commit (a := (nth 0 fs i : Nat)) (n := 1) h2
  rw [h1] at c1
  rw [h3] at c2
  dsimp only at c1 c2
  generalize nth 0 fs i = f at *
  (refine wx_Db ?_; repeat' (first | with_reducible refine And.intro ?_ ?_ | intro hsp))
  all_goals exact next_x (i + 1) [] (by (try dsimp only); omega) (by first | omega | (dsimp only; omega)) rfl (by exact wkx_Db)
 ·obtain rfl : i = fs.length := by omega
  (refine wx_Db ?_; repeat' (first | with_reducible refine And.intro ?_ ?_ | intro hsp))
  exact end_SN rfl rfl nat_plain a_plain
theorem l_system (fs : List Nat) (hf : ∀ f ∈ fs, f < 1024) (hl : fs.length ≤ 1000) : ∃ s, SyOk fs s ∧ LocSN 5 (fs.map natC) fs.length s.a := by
 obtain ⟨s, h, h2⟩ := l_system0 fs hf hl
 exact ⟨s, h.1, h2⟩
end Go.Proofs.YtccbhbdbmmkcdaaGreat.Sh
namespace Go.Proofs.YtccbhbdbmmkcdaaGreat.Sh
open Go Go.Am Go.Pol
theorem wx_Dc {p q : Prop} (hq : q) (h : HidP q → p := by (intro hQz; ((repeat' ((try (conv => whnf)); first | (with_reducible first | refine run_cons ?_ | refine runq_cons ?_ | refine code_seq ?_ | refine code_reg ?_ | refine code_cond ?_ | refine run_nil ?_ | refine runq_nil ?_ | refine rund_op rfl ?_ | refine rund_nil ?_ | refine code_block ?_ | refine code_skip ?_ | refine code_exit ?_ | refine code_ret ?_ | refine code_range ?_ | refine rund_fast (by decide +kernel) ?_ | refine rund_slow (by decide +kernel) ?_ | refine br_tt ?_ | refine br_ff ?_ | refine br_n ?_ | refine br_and ?_ | refine br_or ?_ | refine br_t (by assumption) ?_ | refine br_f (by assumption) ?_ | refine eq_i64 (by omega) ?_ | refine el_tn ?_) | ((with_reducible refine br_dt ?_ ?_); focus omega) | ((with_reducible refine br_df ?_ ?_); focus omega) | ((with_reducible apply br_dq hQz) <;> (try intro hsp hQz)) | ((with_reducible refine ck_x ?_ ?_); focus (first | omega | rfl | assumption | decide | (simp only [List.length_map, List.length_cons, List.length_nil]; omega))) | (with_reducible first | refine eq_tn ?_ | refine eq_tn1 ?_ | refine eq_tn2 ?_ | refine eq_m1 ?_ | refine eq_m2 ?_ | refine eq_zm ?_ | refine eq_z ?_ | refine len_map ?_ | refine len_sl ?_ | refine len_nils ?_ | refine len_own' ?_ | refine len_isl ?_ | refine eq_u8 (by omega) ?_ | refine eq_u16 (by omega) ?_) | (with_reducible first | refine eq_rfl ?_ | refine ChkX.mk (by kernel_rfl) ?_ | refine code_q rfl ?_ | refine code_d (by decide +kernel) ?_ | refine end_go rfl ?_) | (refine cx_in hmix b16 rfl ?_; unfold c16) | (refine cx_in hmix b17 rfl ?_; unfold c17) | refine cx_SN (by assumption) rfl (by decide) ?_ | refine cx_NT (by assumption) ?_ | refine cx_tab (by assumption) rfl rfl rfl rfl rfl (by decide) rfl ?_ | refine cx_locS (by assumption) rfl (by decide) ?_ | refine len_map ?_ | refine len_isl ?_ | refine el_of rfl rfl ?_ | refine del_own ?_ | refine del_own' rfl ?_ | refine as_go rfl ?_ | refine rd_go rfl ?_ | refine rg_end rfl ?_ | refine flat_ownX ?_ | refine EqLX.mk ?_ | ((with_reducible apply br_bq hQz) <;> (try intro hsp hQz)) | exact hQz.out)) <;> (try (conv => whnf))))) : p := h ⟨hq⟩
set_option maxHeartbeats 1600000 in
theorem k_awake : PureS 4 [] (.bool true) := by
 obtain ⟨s0, hs0, hsys⟩ := l_system [3, 4] (by decide) (by decide)
 have hsys' : LocSN 5 [.int .i64 3, .int .i64 4] 2 s0.a := hsys
 have hnew := n_New
 have h0 := tok_0
 generalize T0 = t0 at hnew h0
 obtain ⟨t1, h1, c1⟩ := t_Map h0 (v := (1, 0, 3, true)) (by decide) (fun u hu => by cases hu) (by decide)
 have h1' : TOk [(1, 0, 3, true)] t1 := h1
 obtain ⟨t2, h2, c2⟩ := t_Map h1' (v := (2, 5, 3, false)) (by decide) (fun u hu => by obtain rfl := List.mem_singleton.1 hu; decide) (by decide)
 have h2' : TOk [(1, 0, 3, true), (2, 5, 3, false)] t2 := h2
 have c1' : LocT 15 [.agg [.int .i64 1, .int .i64 0, .int .i64 3, .bool true]] t0 (.int .i64 0) t1 := c1
 have c2' : LocT 15 [.agg [.int .i64 2, .int .i64 5, .int .i64 3, .bool false]] t1 (.int .i64 0) t2 := c2
 have hcnt : t2.C 3 = 2 := by rw [h2'.cnt]; rfl
 have c3 := t_Count (t := t2) (f := 3) (by decide)
 rw [hcnt] at c3
 have c3' : LocT 11 [.int .i64 3] t2 (.tup [.int .i64 2, .int .i64 0]) t2 := c3
 have w1 : LocT 48 [.int .i64 1, .int .i64 10, .bool true] t2 (.tup [.int .i64 202, .int .i64 0]) t2 := t_where h2' (v := (1, 0, 3, true)) (by simp) (at_ := 10) (by decide) rfl (fun _ => rfl)
 have w2 : LocT 48 [.int .i64 2, .int .i64 330, .bool false] t2 (.tup [.int .i64 202, .int .i64 0]) t2 := t_where h2' (v := (2, 5, 3, false)) (by simp) (at_ := 330) (by decide) rfl (fun h => by cases h)
 have w3 : LocT 48 [.int .i64 2, .int .i64 330, .bool true] t2 (.tup [.int .i64 0, .int .i64 220]) t2 := t_where_ro h2' (v := (2, 5, 3, false)) (by simp) (at_ := 330) (by decide) rfl rfl
 obtain ⟨s1, e1, g1, b1⟩ := sy_write hs0 (p := 3) (j := 10) (by decide) (by simp) (by decide) (b := 7) (by decide)
 have r1 := sy_read g1 (p := 3) (j := 10) (by decide) (by simp) (by decide)
 rw [b1, if_pos ⟨rfl, rfl⟩] at r1
 have c4 := p_write (s := s0) (a := ((3 * 64 + 10 : Nat) : Int)) (b := 7)
 rw [e1] at c4
 have c4' : LocS 49 [.int .i64 202, .int .u8 7] s0.a (.int .i64 0) s1.a := c4
 have c5 := p_read (s := s1) (a := ((3 * 64 + 10 : Nat) : Int))
 rw [r1] at c5
 have c5' : LocS 50 [.int .i64 202] s1.a (.tup [.int .u8 7, .int .i64 0]) s1.a := c5
 clear hsys c1 c2 c3 c4 c5
 refine PureS.mk (pure_x hmix b4 plainG trivial plain_bool rfl ?_)
 unfold c4
 (refine wx_Dc ?_; repeat' (first | with_reducible refine And.intro ?_ ?_ | intro hsp))
 all_goals exact end_bool rfl
end Go.Proofs.YtccbhbdbmmkcdaaGreat.Sh
namespace Go.Pol
open Go.Am
def frs (L : List Vw) : List Nat := L.map (·.2.2.1)
end Go.Pol
namespace Go.Proofs.YtccbhbdbmmkcdaaGreat.Sh
open Go Go.Am Go.Pol
theorem nat1_plain (n : Nat) : ∀ x ∈ [natC n], Plain x := fun x hx => by obtain rfl := List.mem_singleton.1 hx; exact plain_int
def nat1 (n : Nat) : List AV := [natC n]
theorem nat1_len (n : Nat) : (nat1 n).length = 1 := rfl
section
variable {L : List Vw} {R : List Rw}
def rdN (t : TS) (s : Sy) (a b c d e g : Nat) : List (Nat × AObj) := [(a, .cells (tabC b e t.C)), (b, .cells [.sl c 0 t.n t.n 7, .sl d 0 t.m t.m 3, .int .i64 (t.S.fr : Nat)]), (c, .cells (cellsB t.n t.V t.W t.V3 t.V4 t.S.L t.S.N t.S.P)), (d, .cells (endsB t.m t.S.A t.S.B t.S.C)), (e, .maps (t.E.map keyE)), (g, .cells s.a)]
structure LocRd (f : Nat) (avs : List AV) (t : TS) (s : Sy) : Prop where
 out : LocC Tryz.prog G0 f avs [] 0 fun x h => x = .tup [.ptr 0 0, .ptr 5 0] ∧ h = ⟨rdN t s 0 1 2 3 4 5, 6⟩
 pa : ∀ x ∈ avs, Plain x
end
end Go.Proofs.YtccbhbdbmmkcdaaGreat.Sh
