/-
  Calls on a queue; put.
-/
import Derived.Test.YtggkpagngnnjjaaQb
set_option linter.unusedSimpArgs false
set_option linter.unusedVariables false
namespace Go.Pol
/-- The slot at a place from the back, counted by how many are ahead of it and it; 0: none. -/
def slA (l : List Nat) : Nat → Int
  | 0 => 0
  | k + 1 => ((nth 0 l k : Nat) : Int)
theorem nth_mid {X Y : List Nat} {s : Nat} : nth 0 (X ++ s :: Y) X.length = s := by
  rw [nth_get (by simp)]; simp
theorem lst_take {l : List Nat} {k : Nat} (hk : k ≤ l.length) : lst (l.take k) = if k = 0 then (-1 : Int) else ((nth 0 l (k - 1) : Nat) : Int) := by
  cases k with
  | zero => rfl
  | succ k => rw [take_nth (d := 0) hk, lst_snoc, if_neg (by omega)]; rfl
theorem split_pg (f : Nat → Int × Int) (P : Int × Int) : ∀ (l : List Nat), l.Pairwise (fun s t => ltP (f s) (f t)) → (∀ t, t ∈ l → ¬ ltP (f t) P → ltP P (f t)) → ∃ X Y, l = X ++ Y ∧ (∀ t, t ∈ X → ltP (f t) P) ∧ ∀ t, t ∈ Y → ltP P (f t)
  | [], _, _ => ⟨[], [], rfl, fun _ h => (by cases h), fun _ h => (by cases h)⟩
  | a :: l, hp, hd => by
    by_cases ha : ltP (f a) P
    · obtain ⟨X, Y, h1, h2, h3⟩ := split_pg f P l (List.pairwise_cons.1 hp).2 fun t ht => hd t (List.mem_cons_of_mem _ ht)
      refine ⟨a :: X, Y, by rw [h1]; rfl, fun t ht => ?_, h3⟩
      rcases List.mem_cons.1 ht with rfl | ht
      · exact ha
      · exact h2 t ht
    · have hg := hd a (List.mem_cons_self ..) ha
      refine ⟨[], a :: l, rfl, fun _ h => (by cases h), fun t ht => ?_⟩
      rcases List.mem_cons.1 ht with rfl | ht
      · exact hg
      · exact ltP_trans hg ((List.pairwise_cons.1 hp).1 t ht)
end Go.Pol
namespace Go.Proofs.Ytggkpagngnnjjaa
open Go Go.Am Go.Pol
theorem wkx_Qc {p : Prop} (h : p := by (refine weak_s (by exact oneOf_of rfl) (by exact subH_of rfl) (by intro hs; (repeat' ((try (conv => whnf)); first | with_reducible exact True.intro | with_reducible refine And.intro ?_ ?_ | (with_reducible refine WkX.mk ?_; first | exact wk_undef | exact wk_int (by first | rfl | omega | (dsimp only; omega)) | exact wk_bool rfl | exact wk_ptr rfl (by first | decide | simp | omega) | exact wk_sl rfl (by first | decide | simp | omega) (by first | rfl | omega | simp) (by first | omega | simp) (by first | omega | simp) | exact wkl_qx hs rfl (by first | decide | omega | simp) | exact wk_own rfl (by first | decide | simp | omega) | exact wk_nil0 (by first | rfl | simp) | exact wk_slown rfl (by first | decide | omega | (simp; done)) (by first | omega | (simp; done)) (by first | rfl | omega | (simp; done) | (simp; omega)) | exact wk_plain hs (by (first | assumption | exact plain_int | exact plain_bool | exact plain_undef | exact plain_nils | exact plain_nilp | exact plain_nilf | exact plain_str | with_reducible apply plain_pg | with_reducible apply plain_val | with_reducible apply plain_ints | with_reducible apply plain_none)) | (with_reducible refine wk_fn ?_ ?_ <;> repeat' (first | with_reducible exact wkl_nil | with_reducible refine wkl_cons ?_ ?_ | exact wk_ptr rfl (by first | decide | simp | omega))) | (with_reducible refine wk_agg ?_; repeat' (first | with_reducible exact wkl_nil | with_reducible refine wkl_cons ?_ ?_ | exact wk_int (by first | rfl | omega | (dsimp only; omega)) | exact wk_bool rfl)) | exact wk_yld rfl (by first | decide | simp | omega))))) (by intro hs; (try dsimp only); (repeat' (first | with_reducible exact wko_nil | refine wko_plain hs (by first | decide | omega | simp) rfl (by first | rfl) (by (first | with_reducible assumption | with_reducible apply cells_plain | with_reducible apply ends_plain | with_reducible apply memI_plain _ _ | with_reducible apply plain_map (fun _ => plain_int) | with_reducible apply plain_map (fun _ => plain_bool) | ((repeat' (first | exact plain_all0 | refine plain_all2 ?_ ?_ | exact plain_int | first | assumption | exact plain_int | exact plain_bool | exact plain_undef | exact plain_nils | exact plain_nilp | exact plain_nilf | exact plain_str | with_reducible apply plain_pg | with_reducible apply plain_val | with_reducible apply plain_ints | with_reducible apply plain_none)); done) | ((refine plain_app ?_ ?_) <;> (first | with_reducible assumption | with_reducible apply cells_plain | with_reducible apply ends_plain | with_reducible apply memI_plain _ _ | with_reducible apply plain_map (fun _ => plain_int) | with_reducible apply plain_map (fun _ => plain_bool) | ((repeat' (first | exact plain_all0 | refine plain_all2 ?_ ?_ | exact plain_int | first | assumption | exact plain_int | exact plain_bool | exact plain_undef | exact plain_nils | exact plain_nilp | exact plain_nilf | exact plain_str | with_reducible apply plain_pg | with_reducible apply plain_val | with_reducible apply plain_ints | with_reducible apply plain_none)); done))))) ?_ | refine wko_cells (by first | decide | omega | simp) rfl (by repeat' (first | with_reducible exact wkl_nil | with_reducible refine wkl_cons ?_ ?_ | (first | exact wk_undef | exact wk_int (by first | rfl | omega | (dsimp only; omega)) | exact wk_bool rfl | exact wk_ptr rfl (by first | decide | simp | omega) | exact wk_sl rfl (by first | decide | simp | omega) (by first | rfl | omega | simp) (by first | omega | simp) (by first | omega | simp) | exact wkl_qx hs rfl (by first | decide | omega | simp) | exact wk_own rfl (by first | decide | simp | omega) | exact wk_nil0 (by first | rfl | simp) | exact wk_slown rfl (by first | decide | omega | (simp; done)) (by first | omega | (simp; done)) (by first | rfl | omega | (simp; done) | (simp; omega)) | exact wk_plain hs (by (first | assumption | exact plain_int | exact plain_bool | exact plain_undef | exact plain_nils | exact plain_nilp | exact plain_nilf | exact plain_str | with_reducible apply plain_pg | with_reducible apply plain_val | with_reducible apply plain_ints | with_reducible apply plain_none)) | (with_reducible refine wk_fn ?_ ?_ <;> repeat' (first | with_reducible exact wkl_nil | with_reducible refine wkl_cons ?_ ?_ | exact wk_ptr rfl (by first | decide | simp | omega))) | (with_reducible refine wk_agg ?_; repeat' (first | with_reducible exact wkl_nil | with_reducible refine wkl_cons ?_ ?_ | exact wk_int (by first | rfl | omega | (dsimp only; omega)) | exact wk_bool rfl)) | exact wk_yld rfl (by first | decide | simp | omega)))) ?_ | refine wko_loop (by first | decide | omega | simp) rfl (by ((try subst hF); (try subst hF2); exact wkl_sd (wkf_sget (by (repeat' ((try (conv => whnf)); first | with_reducible exact True.intro | with_reducible refine And.intro ?_ ?_ | (with_reducible refine WkX.mk ?_; first | exact wk_undef | exact wk_int (by first | rfl | omega | (dsimp only; omega)) | exact wk_bool rfl | exact wk_ptr rfl (by first | decide | simp | omega) | exact wk_sl rfl (by first | decide | simp | omega) (by first | rfl | omega | simp) (by first | omega | simp) (by first | omega | simp) | exact wkl_qx hs rfl (by first | decide | omega | simp) | exact wk_own rfl (by first | decide | simp | omega) | exact wk_nil0 (by first | rfl | simp) | exact wk_slown rfl (by first | decide | omega | (simp; done)) (by first | omega | (simp; done)) (by first | rfl | omega | (simp; done) | (simp; omega)) | exact wk_plain hs (by (first | assumption | exact plain_int | exact plain_bool | exact plain_undef | exact plain_nils | exact plain_nilp | exact plain_nilf | exact plain_str | with_reducible apply plain_pg | with_reducible apply plain_val | with_reducible apply plain_ints | with_reducible apply plain_none)) | (with_reducible refine wk_fn ?_ ?_ <;> repeat' (first | with_reducible exact wkl_nil | with_reducible refine wkl_cons ?_ ?_ | exact wk_ptr rfl (by first | decide | simp | omega))) | (with_reducible refine wk_agg ?_; repeat' (first | with_reducible exact wkl_nil | with_reducible refine wkl_cons ?_ ?_ | exact wk_int (by first | rfl | omega | (dsimp only; omega)) | exact wk_bool rfl)) | exact wk_yld rfl (by first | decide | simp | omega)))))))) ?_ | exact wko_nil))))) : p := h
structure PureS (f : Nat) (args : List AV) (r : AV) : Prop where
  out : PureC Try.prog G0 f args r
theorem cx_pureS {g : Nat} {avs : List AV} {r : AV} {h : Hp} {K : AV → Hp → Prop} (hp : PureS g avs r) (hk : K r h) : CallX Try.prog G0 (.fn g [] []) avs h K := cx_pure (by simpa using hp.out) hk
theorem dcx_pureS {g : Nat} {avs : List AV} {r : AV} {h : Hp} {K : AV → Up → List Nat → Prop} (hp : PureS g avs r) (hk : K r [] []) : DCallX Try.prog G0 g avs h K := dcx_pure hp.out hk
theorem qcx_pureS {g : Nat} {avs : List AV} {r : AV} {K : AV → Prop} (hp : PureS g avs r) (hk : K r) : QCallX Try.prog G0 g avs K := ⟨r, hp.out, hk⟩
/-- A call on a queue: over its four blocks alone. -/
structure LocQ (f : Nat) (avs : List AV) (l0 : List (Nat × AObj)) (r : AV) (lr : List (Nat × AObj)) : Prop where
  out : LocC Try.prog G0 f (.ptr 0 0 :: avs) l0 4 fun x h1 => x = r ∧ h1 = ⟨lr, 4⟩
set_option maxRecDepth 20000 in
theorem wkl_que {σ : Nat → Nat} {h h' : Hp} {age ref keep : Int} {k pl pl' : Nat} {F : Nat → Int} (hs : SubH σ h h') (e : σ pl' = pl) (hl : pl' < h'.next) : WkL Try.prog σ h h' (queB age ref keep k pl F) (queB age ref keep k pl' F) :=
  ⟨wk_int rfl, wk_int rfl, wk_int rfl, wk_int rfl, wk_ptr e hl, wkl_plain hs (memI_plain 1024 F)⟩
theorem wkl_qx {σ : Nat → Nat} {h h' : Hp} {x : QD} {pl pl' : Nat} (hs : SubH σ h h') (e : σ pl' = pl) (hl : pl' < h'.next) : WkL Try.prog σ h h' (x.que pl) (x.que pl') := wkl_que hs e hl
set_option maxRecDepth 20000 in
theorem end_que {top : Bool} {h : Hp} {N0 : Nat} {x : QD} {v r : AV} (hr : WkV Try.prog (rn []) h ⟨queS x, 4⟩ v r) (h0 : lk h.l 0 = some (.cells (x.que 1))) (h1 : lk h.l 1 = some (.cells (x.pool 2 3))) (h2 : lk h.l 2 = some (.cells x.cells)) (h3 : lk h.l 3 = some (.cells x.ends)) (hN0 : N0 ≤ 4 := by decide) :
    EndX top Try.prog N0 h v (fun r' h' => r' = r ∧ h' = ⟨queS x, 4⟩) := by
  have hs : SubH (rn []) h ⟨queS x, 4⟩ := fun i o hi => by
    simp only [queS, lk] at hi
    show ∃ o', lk h.l i = some o'
    split at hi
    · rename_i e; subst e; exact ⟨_, h0⟩
    · split at hi
      · rename_i e; subst e; exact ⟨_, h1⟩
      · split at hi
        · rename_i e; subst e; exact ⟨_, h2⟩
        · split at hi
          · rename_i e; subst e; exact ⟨_, h3⟩
          · cases hi
  exact end_loc [] rfl hN0 (oneOf_of rfl) hr (wko_cells (show 0 < 4 by decide) h0 (wkl_que hs rfl (show 1 < 4 by decide))
    (wko_cells (show 1 < 4 by decide) h1 (wkl_cons (wk_sl rfl (show 2 < 4 by decide) rfl (Nat.le_refl _) (Nat.le_refl _)) (wkl_cons (wk_sl rfl (show 3 < 4 by decide) rfl (Nat.le_refl _) (Nat.le_refl _)) (wkl_cons (wk_int rfl) wkl_nil)))
    (wko_plain hs (show 2 < 4 by decide) h2 rfl cells_plain (wko_plain hs (show 3 < 4 by decide) h3 rfl ends_plain wko_nil)))) ⟨rfl, rfl⟩
set_option maxRecDepth 20000 in
theorem cx_que {f : Nat} {avs : List AV} {x x' : QD} {a b c d nx : Nat} {l : List (Nat × AObj)} {r : AV} {K : AV → Hp → Prop} (hc : LocQ f avs (queS x) r (queS x'))
    (hl0 : lk l a = some (.cells (x.que b))) (hl1 : lk l b = some (.cells (x.pool c d))) (hl2 : lk l c = some (.cells x.cells)) (hl3 : lk l d = some (.cells x.ends)) (hlt : a < nx ∧ b < nx ∧ c < nx ∧ d < nx)
    (ha : ∀ x ∈ avs, Plain x) (hr : Plain r) (hd : nodB [a, b, c, d] = true)
    (hk : filtK [a, b, c, d] l fun l2 => K r ⟨[(a, .cells (x'.que b)), (b, .cells (x'.pool c d)), (c, .cells x'.cells), (d, .cells x'.ends)] ++ l2, nx⟩) : CallX Try.prog G0 (.fn f [] []) (.ptr a 0 :: avs) ⟨l, nx⟩ K := by
  have e0 : enter [a, b, c, d] a 0 := rfl
  have e1 : enter [a, b, c, d] b 1 := rfl
  have e2 : enter [a, b, c, d] c 2 := rfl
  have e3 : enter [a, b, c, d] d 3 := rfl
  have k0 : back [a, b, c, d] nx 0 a := rfl
  have k1 : back [a, b, c, d] nx 1 b := rfl
  have k2 : back [a, b, c, d] nx 2 c := rfl
  have k3 : back [a, b, c, d] nx 3 d := rfl
  have hG : Given (enter [a, b, c, d]) ⟨l, nx⟩ (queS x) :=
    .cons e0 hl0 (show RnL (enter [a, b, c, d]) (queB x.age x.ref x.keep (x.Q 0).length b x.F) (queB x.age x.ref x.keep (x.Q 0).length 1 x.F) from ⟨rn_plain plain_int, rn_plain plain_int, rn_plain plain_int, rn_plain plain_int, rn_ptr e1, rnl_plain (memI_plain 1024 x.F)⟩) (.cons e1 hl1 ⟨rn_sl e2, rn_sl e3, rn_plain plain_int, trivial⟩ (.cons e2 hl2 (rnl_plain cells_plain) (.cons e3 hl3 (rnl_plain ends_plain) .nil)))
  have hS : RnS (back [a, b, c, d] nx) (queS x') [(a, .cells (x'.que b)), (b, .cells (x'.pool c d)), (c, .cells x'.cells), (d, .cells x'.ends)] :=
    .cons k0 (show RnL (back [a, b, c, d] nx) (queB x'.age x'.ref x'.keep (x'.Q 0).length 1 x'.F) (queB x'.age x'.ref x'.keep (x'.Q 0).length b x'.F) from ⟨rn_plain plain_int, rn_plain plain_int, rn_plain plain_int, rn_plain plain_int, rn_ptr k1, rnl_plain (memI_plain 1024 x'.F)⟩) (.cons k1 ⟨rn_sl k2, rn_sl k3, rn_plain plain_int, trivial⟩ (.cons k2 (rnl_plain cells_plain) (.cons k3 (rnl_plain ends_plain) .nil)))
  refine cx_loc [a, b, c, d] hc.out plainG hd hG ?_ (by intro x hx; simp only [List.mem_cons, List.not_mem_nil, or_false] at hx; omega) (rn_plain hr) hS hk
  simp only [List.nil_append, List.append_nil]
  exact ⟨rn_ptr e0, rnl_plain ha⟩
theorem orErr_take {l : List Nat} {k : Nat} (hk : k ≤ l.length) (e : Int) : orErr (lst (l.take k)) e = .tup [.int .i64 (slA l k), .int .i64 (if k = 0 then e else 0)] := by
  unfold orErr
  rw [lst_take hk]
  cases k with
  | zero => rfl
  | succ k =>
    rw [if_neg (show ¬ k + 1 = 0 by omega), if_neg (show ¬ k + 1 = 0 by omega), if_neg (by omega), if_neg (by omega)]
    rfl
section
variable {x : QD}
set_option maxHeartbeats 1600000 in
set_option maxRecDepth 20000 in
theorem q_put (h : GQ x) {p : Nat} {st : Int} (hp : okPg ((p : Int), st)) (h0 : x.F p = 0) :
    ∃ x' X Y, GQ x' ∧ x'.age = x.age ∧ x'.ref = x.ref ∧ x'.keep = x.keep ∧ x.pages = X ++ Y ∧ x'.pages = X ++ ((p : Int), st) :: Y ∧ (∀ a, a ∈ X → ltP a ((p : Int), st)) ∧ (∀ a, a ∈ Y → ltP ((p : Int), st) a) ∧ LocQ 36 [.agg [.int .i64 (p : Nat), .int .i64 st]] (queS x) (.tup []) (queS x') := by
  have hpl : p < 1024 := by have := hp.2.1; dsimp only at this; omega
  obtain ⟨s, hs⟩ := h.free hpl h0
  have hsl : s < 1024 := hs.1
  have hdis : ∀ t, t ∈ x.Q 0 → ¬ ltP (x.pg t) ((p : Int), st) → ltP ((p : Int), st) (x.pg t) := fun t ht hn => by
    obtain ⟨q, h1, h2, h3⟩ := h.vn ht
    have hne : x.V t ≠ (p : Int) := fun e => by
      have e2 : q = p := by omega
      rw [e2] at h3; omega
    rw [ltP_iff] at hn ⊢
    unfold QD.pg at hn ⊢
    dsimp only at hn ⊢
    omega
  obtain ⟨X, Y, hQ, hX, hY⟩ := split_pg x.pg ((p : Int), st) (x.Q 0) h.srt hdis
  have hlen := h.good.inv.len 0
  have hXl : X.length ≤ (x.Q 0).length := by rw [hQ]; simp
  have hen := p_end h.good.inv h.good.n_pos (i := 0) (by decide) false
  rw [if_neg Bool.false_ne_true, show lst (x.Q 0) = lst ((x.Q 0).take (x.Q 0).length) by rw [List.take_length], orErr_take (Nat.le_refl _)] at hen
  have hw := h.good.inv.st.us 0
  have main : ∀ {S' : PS}, Inv 1024 1 (updI x.V s p) (updI x.W s st) (updQ x.Q 0 (X ++ s :: Y)) S' → LocQ 36 [.agg [.int .i64 (p : Nat), .int .i64 st]] (queS x) (.tup []) (queS ⟨x.age, x.ref, x.keep, updI x.V s p, updI x.W s st, updI x.F p (s + 1), updQ x.Q 0 (X ++ s :: Y), S'⟩) → ∃ x' X' Y', GQ x' ∧ x'.age = x.age ∧ x'.ref = x.ref ∧ x'.keep = x.keep ∧ x.pages = X' ++ Y' ∧ x'.pages = X' ++ ((p : Int), st) :: Y' ∧ (∀ a, a ∈ X' → ltP a ((p : Int), st)) ∧ (∀ a, a ∈ Y' → ltP ((p : Int), st) a) ∧ LocQ 36 [.agg [.int .i64 (p : Nat), .int .i64 st]] (queS x) (.tup []) (queS x') := fun {S'} hi hT => by
    have hsn := hs.2.1 0
    rw [hQ] at hsn
    have hX' : ∀ t, t ∈ X → t ≠ s := fun t ht e => hsn (List.mem_append_left _ (e ▸ ht))
    have hY' : ∀ t, t ∈ Y → t ≠ s := fun t ht e => hsn (List.mem_append_right _ (e ▸ ht))
    refine ⟨_, X.map x.pg, Y.map x.pg, h.add hp h0 hs.2.1 hQ hX hY hi, rfl, rfl, rfl, by unfold QD.pages; rw [hQ, List.map_append], ?_, fun a ha => ?_, fun a ha => ?_, hT⟩
    · unfold QD.pages
      dsimp only
      rw [updQ_at, List.map_append, List.map_cons]
      congr 1
      · exact List.map_congr_left fun t ht => by unfold QD.pg; dsimp only; rw [updI_ne (hX' t ht), updI_ne (hX' t ht)]
      · congr 1
        · unfold QD.pg; dsimp only; rw [updI_at, updI_at]
        · exact List.map_congr_left fun t ht => by unfold QD.pg; dsimp only; rw [updI_ne (hY' t ht), updI_ne (hY' t ht)]
    · obtain ⟨t, ht, rfl⟩ := List.mem_map.1 ha; exact hX t ht
    · obtain ⟨t, ht, rfl⟩ := List.mem_map.1 ha; exact hY t ht
  have body : ∀ {S' : PS} {r : AV} {g : Nat} {avs : List AV}, (X = [] ∧ g = 59 ∧ avs = [.int .i64 0, .agg [.int .i64 (p : Nat), .int .i64 st], .bool true]) ∨ (∃ X1 y, X = X1 ++ [y] ∧ g = 58 ∧ avs = [.int .i64 (y : Nat), .agg [.int .i64 (p : Nat), .int .i64 st]]) →
      LocP g avs 1024 1 (poolS 1024 1 x.V x.W x.S) (.tup [.int .i64 (s : Nat), .int .i64 0]) (poolS 1024 1 (updI x.V s p) (updI x.W s st) S') → LocQ 36 [.agg [.int .i64 (p : Nat), .int .i64 st]] (queS x) (.tup []) (queS ⟨x.age, x.ref, x.keep, updI x.V s p, updI x.W s st, updI x.F p (s + 1), updQ x.Q 0 (X ++ s :: Y), S'⟩) := fun {S' r g avs} hcase hcall => by
    refine LocQ.mk (loc_x hmix b36 rfl ?_)
    unfold c36
    have hq : (AV.int .i64 x.age :: AV.int .i64 x.ref :: AV.int .i64 x.keep :: AV.int .i64 (((x.Q 0).length : Nat) + 1 : Int) :: AV.ptr 1 0 :: memI 1024 (updI x.F p (s + 1))) = QD.que ⟨x.age, x.ref, x.keep, updI x.V s p, updI x.W s st, updI x.F p (s + 1), updQ x.Q 0 (X ++ s :: Y), S'⟩ 1 := by
      unfold QD.que queB
      dsimp only
      rw [updQ_at, show (X ++ s :: Y).length = (x.Q 0).length + 1 by rw [hQ]; simp; omega]
      rfl
    ((repeat' ((try (conv => whnf)); first | (with_reducible first | refine run_cons ?_ | refine runq_cons ?_ | refine code_seq ?_ | refine code_reg ?_ | refine code_cond ?_ | refine run_nil ?_ | refine runq_nil ?_ | refine rund_op rfl ?_ | refine rund_nil ?_ | refine code_block ?_ | refine code_skip ?_ | refine code_exit ?_ | refine code_ret ?_ | refine code_range ?_ | refine rund_fast (by decide +kernel) ?_ | refine rund_slow (by decide +kernel) ?_ | refine br_tt ?_ | refine br_ff ?_ | refine br_n ?_ | refine br_and ?_ | refine br_or ?_ | refine br_t (by assumption) ?_ | refine br_f (by assumption) ?_ | refine eq_i64 (by omega) ?_ | refine el_tn ?_) | (with_reducible refine br_d ?_ ?_ <;> intro hsp <;> first | (exfalso; omega) | skip) | ((with_reducible refine ck_x ?_ ?_); focus (first | omega | rfl | assumption | decide | (simp only [List.length_map, List.length_cons, List.length_nil]; omega))) | (with_reducible first | refine eq_tn ?_ | refine eq_tn1 ?_ | refine eq_tn2 ?_ | refine eq_m1 ?_ | refine eq_m2 ?_ | refine eq_zm ?_ | refine eq_z ?_ | refine len_map ?_ | refine len_sl ?_ | refine len_nils ?_ | refine len_own' ?_ | refine len_isl ?_ | refine eq_u8 (by omega) ?_ | refine eq_u16 (by omega) ?_) | (with_reducible first | refine eq_rfl ?_ | refine ChkX.mk (by kernel_rfl) ?_ | refine code_q rfl ?_ | refine code_d (by decide +kernel) ?_ | refine end_go rfl ?_) | refine cx_pool hen rfl rfl rfl (by decide) (by simp [plain_int, plain_bool]) plain_ints rfl ?_ | refine len_map ?_ | refine len_isl ?_ | refine el_of rfl rfl ?_ | refine del_own ?_ | refine del_own' rfl ?_ | refine as_go rfl ?_ | refine rd_go rfl ?_ | refine rg_end rfl ?_ | refine flat_ownX ?_ | (with_reducible refine br_b ?_ ?_ <;> intro hsp))) <;> (try (conv => whnf)))
    (refine loop_x [] (fun (q : Nat × Int) => [(0, .ptr 0 0), (3, .ptr 4 0), (4, .int .i64 (slA (x.Q 0) q.1)), (5, .int .i64 q.2)]) (fun (q : Nat × Int) => ⟨[(0, .cells (x.que 1)), (1, .cells [.sl 2 0 1024 1024 5, .sl 3 0 1 1 3, .int .i64 (x.S.fr : Nat)]), (2, .cells (cellsB 1024 x.V x.W x.S.L x.S.N x.S.P)), (3, .cells (endsB 1 x.S.A x.S.B x.S.C)), (4, .cells [.int .i64 (p : Nat), .int .i64 st])], 5⟩) (fun (q : Nat × Int) => X.length ≤ q.1 ∧ q.1 ≤ (x.Q 0).length ∧ (q.1 = 0 → q.2 ≠ 0) ∧ (0 < q.1 → q.2 = 0)) (fun (q : Nat × Int) => q.1) (((x.Q 0).length, if (x.Q 0).length = 0 then 4 else 0)) [] rfl (fun _ => by first | exact Nat.zero_le _ | (dsimp only; omega)) ?_ (by ((try (conv => whnf)); exact wkx_Qc)) ?_)
    · refine ⟨hXl, Nat.le_refl _, fun e => ?_, fun e => ?_⟩
      · dsimp only at e ⊢; rw [if_pos e]; decide
      · dsimp only at e ⊢; rw [if_neg (by omega)]
    rintro ⟨k, e⟩ ⟨hk1, hk2, hk3, hk4⟩
    dsimp only at hk1 hk2 hk3 hk4 ⊢
    cases k with
    | zero =>
      have he := hk3 rfl
      have hX0 : X = [] := List.eq_nil_of_length_eq_zero (by omega)
      rcases hcase with ⟨_, rfl, rfl⟩ | ⟨X1, y, hy, _⟩
      · show _
        rw [show slA (x.Q 0) 0 = 0 from rfl]
        ((repeat' ((try (conv => whnf)); first | (with_reducible first | refine run_cons ?_ | refine runq_cons ?_ | refine code_seq ?_ | refine code_reg ?_ | refine code_cond ?_ | refine run_nil ?_ | refine runq_nil ?_ | refine rund_op rfl ?_ | refine rund_nil ?_ | refine code_block ?_ | refine code_skip ?_ | refine code_exit ?_ | refine code_ret ?_ | refine code_range ?_ | refine rund_fast (by decide +kernel) ?_ | refine rund_slow (by decide +kernel) ?_ | refine br_tt ?_ | refine br_ff ?_ | refine br_n ?_ | refine br_and ?_ | refine br_or ?_ | refine br_t (by assumption) ?_ | refine br_f (by assumption) ?_ | refine eq_i64 (by omega) ?_ | refine el_tn ?_) | (with_reducible refine br_d ?_ ?_ <;> intro hsp <;> first | (exfalso; omega) | skip) | ((with_reducible refine ck_x ?_ ?_); focus (first | omega | rfl | assumption | decide | (simp only [List.length_map, List.length_cons, List.length_nil]; omega))) | (with_reducible first | refine eq_tn ?_ | refine eq_tn1 ?_ | refine eq_tn2 ?_ | refine eq_m1 ?_ | refine eq_m2 ?_ | refine eq_zm ?_ | refine eq_z ?_ | refine len_map ?_ | refine len_sl ?_ | refine len_nils ?_ | refine len_own' ?_ | refine len_isl ?_ | refine eq_u8 (by omega) ?_ | refine eq_u16 (by omega) ?_) | refine set1K_of (by rw [qx_len]; omega) qx_set ?_ | (with_reducible first | refine eq_rfl ?_ | refine ChkX.mk (by kernel_rfl) ?_ | refine code_d (by decide +kernel) ?_ | refine end_go rfl ?_) | refine cx_pool hcall rfl rfl rfl (by decide) (by simp [plain_int, plain_bool, plain_pg]) plain_ints rfl ?_ | refine len_map ?_ | refine len_isl ?_ | refine el_of rfl rfl ?_ | refine del_own ?_ | refine del_own' rfl ?_ | refine as_go rfl ?_ | refine rd_go rfl ?_ | refine rg_end rfl ?_ | refine flat_ownX ?_ | (with_reducible refine br_b ?_ ?_ <;> intro hsp))) <;> (try (conv => whnf)))
        exact end_que (x := ⟨x.age, x.ref, x.keep, updI x.V s p, updI x.W s st, updI x.F p (s + 1), updQ x.Q 0 (X ++ s :: Y), S'⟩) wk_none (congrArg (fun c => some (AObj.cells c)) hq) rfl rfl rfl
      · rw [hX0] at hy; simp at hy
    | succ k =>
      have he := hk4 (Nat.succ_pos k)
      subst he
      have hat : AtQ 1 x.Q (nth 0 (x.Q 0) k) 0 ((x.Q 0).take k) ((x.Q 0).drop (k + 1)) := ⟨by decide, by rw [nth_get hk2, ← List.drop_eq_getElem_cons hk2, List.take_append_drop]⟩
      have hyl := (hw _ (nth_mem (d := 0) hk2)).1
      have hg := p_get h.good.inv hat
      have ho := PureS.mk (k_order (x.V (nth 0 (x.Q 0) k)) (x.W (nth 0 (x.Q 0) k)) p st)
      rw [show slA (x.Q 0) (k + 1) = ((nth 0 (x.Q 0) k : Nat) : Int) from rfl]
      by_cases hkX : k + 1 = X.length
      · rcases hcase with ⟨h1, _⟩ | ⟨X1, y, hy, rfl, rfl⟩
        · rw [h1] at hkX; simp at hkX
        · have hyy : nth 0 (x.Q 0) k = y := by
            have hk3 : k = X1.length := by rw [hy] at hkX; simp at hkX; exact hkX
            rw [hQ, hy, List.append_assoc, hk3]
            exact nth_mid
          have hlt : ordI (x.V (nth 0 (x.Q 0) k)) (x.W (nth 0 (x.Q 0) k)) p st < 0 := hX _ (by rw [hyy, hy]; simp)
          rw [hyy] at hlt hg ho hyl ⊢
          ((repeat' ((try (conv => whnf)); first | (with_reducible first | refine run_cons ?_ | refine runq_cons ?_ | refine code_seq ?_ | refine code_reg ?_ | refine code_cond ?_ | refine run_nil ?_ | refine runq_nil ?_ | refine rund_op rfl ?_ | refine rund_nil ?_ | refine code_block ?_ | refine code_skip ?_ | refine code_exit ?_ | refine code_ret ?_ | refine code_range ?_ | refine rund_fast (by decide +kernel) ?_ | refine rund_slow (by decide +kernel) ?_ | refine br_tt ?_ | refine br_ff ?_ | refine br_n ?_ | refine br_and ?_ | refine br_or ?_ | refine br_t (by assumption) ?_ | refine br_f (by assumption) ?_ | refine eq_i64 (by omega) ?_ | refine el_tn ?_) | (with_reducible refine br_d ?_ ?_ <;> intro hsp <;> first | (exfalso; omega) | skip) | ((with_reducible refine ck_x ?_ ?_); focus (first | omega | rfl | assumption | decide | (simp only [List.length_map, List.length_cons, List.length_nil]; omega))) | (with_reducible first | refine eq_tn ?_ | refine eq_tn1 ?_ | refine eq_tn2 ?_ | refine eq_m1 ?_ | refine eq_m2 ?_ | refine eq_zm ?_ | refine eq_z ?_ | refine len_map ?_ | refine len_sl ?_ | refine len_nils ?_ | refine len_own' ?_ | refine len_isl ?_ | refine eq_u8 (by omega) ?_ | refine eq_u16 (by omega) ?_) | refine set1K_of (by rw [qx_len]; omega) qx_set ?_ | (with_reducible first | refine eq_rfl ?_ | refine ChkX.mk (by kernel_rfl) ?_ | refine code_d (by decide +kernel) ?_ | refine end_go rfl ?_) | refine cx_pureS ho ?_ | refine cx_pool hg rfl rfl rfl (by decide) (by simp [plain_int, plain_bool]) plain_val rfl ?_ | refine cx_pool hcall rfl rfl rfl (by decide) (by simp [plain_int, plain_bool, plain_pg]) plain_ints rfl ?_ | refine len_map ?_ | refine len_isl ?_ | refine el_of rfl rfl ?_ | refine del_own ?_ | refine del_own' rfl ?_ | refine as_go rfl ?_ | refine rd_go rfl ?_ | refine rg_end rfl ?_ | refine flat_ownX ?_ | (with_reducible refine br_b ?_ ?_ <;> intro hsp))) <;> (try (conv => whnf)))
          exact end_que (x := ⟨x.age, x.ref, x.keep, updI x.V s p, updI x.W s st, updI x.F p (s + 1), updQ x.Q 0 (X ++ s :: Y), S'⟩) wk_none (congrArg (fun c => some (AObj.cells c)) hq) rfl rfl rfl
      · have hmY : nth 0 (x.Q 0) k ∈ Y := by
          rw [hQ, nth_get (by rw [← hQ]; exact hk2), List.getElem_append_right (by omega)]
          exact List.getElem_mem _
        have hgt := hY _ hmY
        have hno : ¬ ordI (x.V (nth 0 (x.Q 0) k)) (x.W (nth 0 (x.Q 0) k)) p st < 0 := fun hh => by
          have h5 := ltP_trans hgt (show ltP (x.pg (nth 0 (x.Q 0) k)) ((p : Int), st) from hh)
          rw [ltP_iff] at h5; omega
        have hs2 := p_step h.good.inv hat true
        rw [if_pos rfl, orErr_take (by omega)] at hs2
        generalize nth 0 (x.Q 0) k = y at *
        ((repeat' ((try (conv => whnf)); first | (with_reducible first | refine run_cons ?_ | refine runq_cons ?_ | refine code_seq ?_ | refine code_reg ?_ | refine code_cond ?_ | refine run_nil ?_ | refine runq_nil ?_ | refine rund_op rfl ?_ | refine rund_nil ?_ | refine code_block ?_ | refine code_skip ?_ | refine code_exit ?_ | refine code_ret ?_ | refine code_range ?_ | refine rund_fast (by decide +kernel) ?_ | refine rund_slow (by decide +kernel) ?_ | refine br_tt ?_ | refine br_ff ?_ | refine br_n ?_ | refine br_and ?_ | refine br_or ?_ | refine br_t (by assumption) ?_ | refine br_f (by assumption) ?_ | refine eq_i64 (by omega) ?_ | refine el_tn ?_) | (with_reducible refine br_d ?_ ?_ <;> intro hsp <;> first | (exfalso; omega) | skip) | ((with_reducible refine ck_x ?_ ?_); focus (first | omega | rfl | assumption | decide | (simp only [List.length_map, List.length_cons, List.length_nil]; omega))) | (with_reducible first | refine eq_tn ?_ | refine eq_tn1 ?_ | refine eq_tn2 ?_ | refine eq_m1 ?_ | refine eq_m2 ?_ | refine eq_zm ?_ | refine eq_z ?_ | refine len_map ?_ | refine len_sl ?_ | refine len_nils ?_ | refine len_own' ?_ | refine len_isl ?_ | refine eq_u8 (by omega) ?_ | refine eq_u16 (by omega) ?_) | (with_reducible first | refine eq_rfl ?_ | refine ChkX.mk (by kernel_rfl) ?_ | refine code_q rfl ?_ | refine code_d (by decide +kernel) ?_ | refine end_go rfl ?_) | refine cx_pureS ho ?_ | refine cx_pool hg rfl rfl rfl (by decide) (by simp [plain_int, plain_bool]) plain_val rfl ?_ | refine cx_pool hs2 rfl rfl rfl (by decide) (by simp [plain_int, plain_bool]) plain_ints rfl ?_ | refine len_map ?_ | refine len_isl ?_ | refine el_of rfl rfl ?_ | refine del_own ?_ | refine del_own' rfl ?_ | refine as_go rfl ?_ | refine rd_go rfl ?_ | refine rg_end rfl ?_ | refine flat_ownX ?_ | (with_reducible refine br_b ?_ ?_ <;> intro hsp))) <;> (try (conv => whnf)))
        exact next_x (k, if k = 0 then 9 else 0) [] ⟨by dsimp only; omega, by dsimp only; omega, fun e => by dsimp only at e ⊢; rw [if_pos e]; decide, fun e => by dsimp only at e ⊢; rw [if_neg (by omega)]⟩ (by first | omega | (dsimp only; omega)) rfl (by exact wkx_Qc)
  have hw1 := h.good.inv.st
  by_cases hX0 : X = []
  · have hQ0 : x.Q 0 = Y := by rw [hQ, hX0]; rfl
    obtain ⟨S', i1, c1⟩ := p_push h.good.inv h.good.n_le hs (i := 0) (by decide) (p : Int) st true
    rw [if_pos rfl, show s :: x.Q 0 = X ++ s :: Y by rw [hX0, hQ0]; rfl] at i1
    exact main i1 (body (r := .undef) (.inl ⟨hX0, rfl, rfl⟩) c1)
  · obtain ⟨X1, y, hy⟩ : ∃ X1 y, X = X1 ++ [y] := by
      rcases List.eq_nil_or_concat X with h1 | ⟨X1, y, h1⟩
      · exact absurd h1 hX0
      · exact ⟨X1, y, by rw [h1, List.concat_eq_append]⟩
    have hat : AtQ 1 x.Q y 0 X1 Y := ⟨by decide, by rw [hQ, hy]; simp⟩
    obtain ⟨S', i1, c1⟩ := p_after h.good.inv h.good.n_le hs hat (p : Int) st
    rw [show X1 ++ y :: s :: Y = X ++ s :: Y by rw [hy]; simp] at i1
    exact main i1 (body (r := .undef) (.inr ⟨X1, y, hy, rfl, rfl⟩) c1)
end
end Go.Proofs.Ytggkpagngnnjjaa
