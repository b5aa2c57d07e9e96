/-
  What an operation depends on: slots, and blocks that it reads. No program in sight.
-/
import Derived.Test.YtggkpagngnnjjaaAmStep
set_option linter.unusedSimpArgs false
set_option linter.unusedVariables false
namespace Go.Am
def AX.slots : AX → List Nat
  | .t n => [n]
  | _ => []
def oslots : Option AX → List Nat
  | none => []
  | some x => x.slots
def pslots : List (Nat × Nat × AX) → List Nat
  | [] => []
  | (_, _, x) :: r => x.slots ++ pslots r
def lslots : List AX → List Nat
  | [] => []
  | x :: r => x.slots ++ lslots r
def AOp.slots : AOp → List Nat
  | .mv x | .box x | .load _ _ x | .nchk x | .un _ x | .conv _ x | .faddr _ x | .fld _ _ _ x | .ext x _ | .len x | .clear _ x => x.slots
  | .pick c a b => c.slots ++ (a.slots ++ b.slots)
  | .new _ => []
  | .build _ ps | .bslice _ _ _ ps => pslots ps
  | .store _ a v => a.slots ++ v.slots
  | .bin _ x y | .eqb _ x y | .eqp _ _ x y | .eqs _ _ x y | .iaddrA _ _ x y | .iaddrS _ x y | .idx _ _ _ x y | .mks _ _ _ x y | .append _ _ x y => x.slots ++ y.slots
  | .slS _ x lo hi mx => x.slots ++ (oslots lo ++ (oslots hi ++ oslots mx))
  | .slA _ _ x lo hi => x.slots ++ (oslots lo ++ oslots hi)
  | .mkfn _ fs cs => lslots fs ++ lslots cs
  | .minmax _ x xs => x.slots ++ lslots xs
  | .call f xs => f.slots ++ lslots xs
section
variable {G : Gl} {fr fr' : List AV}
theorem ax_congr {x : AX} (h : ∀ n ∈ x.slots, fr'[n]? = fr[n]?) : ax G fr' x = ax G fr x := by
  cases x with
  | t n => exact h n (by simp [AX.slots])
  | _ => rfl
theorem evO_congr {x : Option AX} (h : ∀ n ∈ oslots x, fr'[n]? = fr[n]?) : evO (ax G fr') x = evO (ax G fr) x := by
  cases x with
  | none => rfl
  | some x => simp only [evO, ax_congr (x := x) h]
theorem valsV_congr : ∀ {l : List AX}, (∀ n ∈ lslots l, fr'[n]? = fr[n]?) → valsV (ax G fr') l = valsV (ax G fr) l
  | [], _ => rfl
  | x :: r, h => by
    simp only [valsV, ax_congr (x := x) fun n hn => h n (by simp [lslots, hn]), valsV_congr (l := r) fun n hn => h n (by simp [lslots, hn])]
theorem partsV_congr : ∀ {l : List (Nat × Nat × AX)}, (∀ n ∈ pslots l, fr'[n]? = fr[n]?) → partsV (ax G fr') l = partsV (ax G fr) l
  | [], _ => rfl
  | (o, s, x) :: r, h => by
    simp only [partsV, ax_congr (x := x) fun n hn => h n (by simp [pslots, hn]), partsV_congr (l := r) fun n hn => h n (by simp [pslots, hn])]
theorem evalA_congr {at_ : At} {id : Nat} {o : AOp} (h : ∀ n ∈ o.slots, fr'[n]? = fr[n]?) : evalA (ax G fr') at_ id o = evalA (ax G fr) at_ id o := by
  cases o <;> simp only [AOp.slots, List.mem_append] at h
  case call => rfl
  case new => rfl
  case build z ps => simp only [evalA, partsV_congr (G := G) h]
  case bslice s n z ps => simp only [evalA, partsV_congr (G := G) h]
  case pick c a b => simp only [evalA, ax_congr (G := G) (x := c) fun n hn => h n (.inl hn), ax_congr (G := G) (x := a) fun n hn => h n (.inr (.inl hn)), ax_congr (G := G) (x := b) fun n hn => h n (.inr (.inr hn))]
  case slS s x lo hi mx => simp only [evalA, ax_congr (G := G) (x := x) fun n hn => h n (.inl hn), evO_congr (G := G) (x := lo) fun n hn => h n (.inr (.inl hn)), evO_congr (G := G) (x := hi) fun n hn => h n (.inr (.inr (.inl hn))), evO_congr (G := G) (x := mx) fun n hn => h n (.inr (.inr (.inr hn)))]
  case slA s m x lo hi => simp only [evalA, ax_congr (G := G) (x := x) fun n hn => h n (.inl hn), evO_congr (G := G) (x := lo) fun n hn => h n (.inr (.inl hn)), evO_congr (G := G) (x := hi) fun n hn => h n (.inr (.inr hn))]
  case mkfn f fs cs => simp only [evalA, valsV_congr (G := G) (l := fs) fun n hn => h n (.inl hn), valsV_congr (G := G) (l := cs) fun n hn => h n (.inr hn)]
  case minmax m x xs => simp only [evalA, ax_congr (G := G) (x := x) fun n hn => h n (.inl hn), valsV_congr (G := G) (l := xs) fun n hn => h n (.inr hn)]
  all_goals first
    | (simp only [evalA, ax_congr (G := G) h]; done)
    | (rename_i x y; simp only [evalA, ax_congr (G := G) (x := x) fun n hn => h n (.inl hn), ax_congr (G := G) (x := y) fun n hn => h n (.inr hn)]; done)
end
theorem cellsAt_congr {at_ at' : At} {i : Nat} (h : at' i = at_ i) : cellsAt at' i = cellsAt at_ i := by simp only [cellsAt, h]
theorem srcV_local {at_ at' : At} {sz : Nat} {x : AV} {src : List AV} {n : Nat} {rd : List Nat} (h : srcV at_ sz x = some (src, n, rd)) (hr : ∀ i ∈ rd, at' i = at_ i) : srcV at' sz x = some (src, n, rd) := by
  unfold srcV at h ⊢
  cases x <;> simp only at h ⊢ <;> try exact h
  rename_i id off len cp sz'
  have hid : at' id = at_ id := by
    split at h
    · split at h
      · cases h; exact hr id (by simp)
      · cases h
    · cases h
  rw [cellsAt_congr hid]; exact h
theorem evalA_local {ev : AX → Option AV} {at_ at' : At} {id : Nat} {o : AOp} {v : AV} {up : Up} {rd : List Nat} (h : evalA ev at_ id o = some (v, up, rd)) (hr : ∀ i ∈ rd, at' i = at_ i) : evalA ev at' id o = some (v, up, rd) := by
  cases o <;> try exact h
  case load ag n x =>
    simp only [evalA] at h ⊢
    split at h
    · rename_i u hu
      split at h
      · rename_i w rd' hw
        cases h
        have : loadV at' ag n u = loadV at_ ag n u := by
          unfold loadV at hw ⊢
          cases u <;> simp only at hw ⊢
          rename_i i off
          have hid : at' i = at_ i := by
            split at hw
            · simp only [Option.map_eq_some_iff] at hw
              obtain ⟨y, _, hy⟩ := hw
              cases hy; exact hr i (by simp)
            · cases hw
          rw [cellsAt_congr hid]
        simp only [hu, this, hw]
      · cases h
    · cases h
  case store n p q =>
    simp only [evalA] at h ⊢
    split at h
    · rename_i u w hu hw'
      split at h
      · rename_i up' rd' hw
        cases h
        have : storeV at' n w u = storeV at_ n w u := by
          unfold storeV at hw ⊢
          cases u <;> simp only at hw ⊢
          rename_i i off
          have hid : at' i = at_ i := by
            split at hw
            · split at hw
              · cases hw; exact hr i (by simp)
              · cases hw
            · cases hw
          rw [cellsAt_congr hid]
        simp only [hu, hw', this, hw]
      · cases h
    · cases h
  case slA n s x lo hi =>
    simp only [evalA] at h ⊢
    split at h
    · rename_i u l k hu hl hk
      split at h
      · rename_i w rd' hw
        cases h
        have : slAV at' n s u l k = slAV at_ n s u l k := by
          unfold slAV at hw ⊢
          cases u <;> simp only at hw ⊢
          rename_i i off
          have hid : at' i = at_ i := by
            split at hw
            · split at hw
              · split at hw <;> cases hw <;> exact hr i (by simp)
              · cases hw
            · cases hw
          rw [cellsAt_congr hid]
        simp only [hu, hl, hk, this, hw]
      · cases h
    · cases h
  case clear z x =>
    simp only [evalA] at h ⊢
    split at h
    · rename_i u hu
      split at h
      · rename_i up' rd' hw
        cases h
        have : clearV at' z u = clearV at_ z u := by
          unfold clearV at hw ⊢
          cases u with
          | sl i off len cp sz =>
            simp only at hw ⊢
            have hid : at' i = at_ i := by
              split at hw
              · split at hw
                · cases hw; exact hr i (by simp)
                · cases hw
              · cases hw
            rw [cellsAt_congr hid]
          | isl els => cases els <;> rfl
          | _ => rfl
        simp only [hu, this, hw]
      · cases h
    · cases h
  case append sz bytes s x =>
    simp only [evalA] at h ⊢
    split at h
    · rename_i u w hu hw
      unfold appV at h ⊢
      split at h
      · rename_i src n rd' hsrc
        have hrd : ∀ i ∈ rd', i ∈ rd := by
          cases u <;> (try simp only at h) <;> try (cases h; done)
          · split at h
            · cases h; exact fun _ h => h
            · split at h
              · cases h; exact fun _ h => h
              · cases h
          · split at h
            · split at h
              · split at h
                · split at h
                  · cases h; exact fun i hi => by simp [hi]
                  · cases h
                · split at h
                  · cases h; exact fun i hi => by simp [hi]
                  · cases h
              · cases h
            · cases h
        rw [srcV_local hsrc fun i hi => hr i (hrd i hi)]
        cases u <;> (try simp only at h ⊢) <;> try exact h
        rename_i d off len cp sz'
        have hid : at' d = at_ d := by
          split at h
          · split at h
            · split at h
              · split at h
                · cases h; exact hr d (by simp)
                · cases h
              · split at h
                · cases h; exact hr d (by simp)
                · cases h
            · cases h
          · cases h
        rw [cellsAt_congr hid]; exact h
      · cases h
    · cases h
end Go.Am
