/-
  The two systems' blocks, by functions of pages.
-/
import Derived.Test.YtjlbfijjfjogiaaSa
set_option linter.unusedSimpArgs false
set_option linter.unusedVariables false
namespace Go.Pol
open Go.Am
def updP (B : Nat → Nat → Int) (p : Nat) (f : Nat → Int) : Nat → Nat → Int := fun q => if q = p then f else B q
def pageF (K : Nat → Int) (M : Nat → Bool) (B : Nat → Nat → Int) (p j : Nat) : AV := if j = 0 then .int .i64 (K p) else if j = 1 then .bool (M p) else .int .u8 (B p (j - 2))
def sysF (K : Nat → Int) (M : Nat → Bool) (B : Nat → Nat → Int) (P : List AV) (i : Nat) : AV :=
  if i = 0 then .bool true else if i < 67585 then pageF K M B ((i - 1) / 66) ((i - 1) % 66) else P[i - 67585]?.getD .undef
/-- The program's system: made; 1024 pages of a kind, huge or not, 64 bytes; the state of refusals. -/
@[irreducible] def sysB (K : Nat → Int) (M : Nat → Bool) (B : Nat → Nat → Int) (P : List AV) : List AV := memA 67600 (sysF K M B P)
def refF (K : Nat → Int) (G : Nat → Bool) (B : Nat → Nat → Int) (P : List AV) (i : Nat) : AV :=
  if i < 1024 then .int .i64 (K i) else if i < 1088 then .bool (G (i - 1024)) else if i < 66624 then .int .u8 (B ((i - 1088) / 64) ((i - 1088) % 64)) else P[i - 66624]?.getD .undef
/-- The document's system: 1024 kinds, 64 groups huge or not, 1024 pages of 64 bytes, the state of refusals. -/
@[irreducible] def refK (K : Nat → Int) (G : Nat → Bool) (B : Nat → Nat → Int) (P : List AV) : List AV := memA 66639 (refF K G B P)
section
variable {K : Nat → Int} {M G : Nat → Bool} {B : Nat → Nat → Int} {P : List AV} {p j : Nat} {v : Int} {b : Bool}
theorem sys_len : (sysB K M B P).length = 67600 := by unfold sysB; exact memA_len ..
theorem ref_len : (refK K G B P).length = 66639 := by unfold refK; exact memA_len ..
theorem sys_made : (sysB K M B P)[0]? = some (.bool true) := by unfold sysB; rw [memA_get (by decide)]; rfl
theorem sysF_page (hp : p < 1024) (hj : j < 66) : sysF K M B P (1 + p * 66 + j) = pageF K M B p j := by
  unfold sysF
  rw [if_neg (by omega), if_pos (by omega), show (1 + p * 66 + j - 1) / 66 = p by omega, show (1 + p * 66 + j - 1) % 66 = j by omega]
theorem sys_kind (hp : p < 1024) : (sysB K M B P)[1 + p * 66]? = some (.int .i64 (K p)) := by
  unfold sysB; rw [memA_get (by omega), show 1 + p * 66 = 1 + p * 66 + 0 by omega, sysF_page hp (by decide)]; rfl
theorem sys_huge (hp : p < 1024) : (sysB K M B P)[1 + p * 66 + 1]? = some (.bool (M p)) := by
  unfold sysB; rw [memA_get (by omega), sysF_page hp (by decide)]; rfl
theorem sys_byte (hp : p < 1024) (hj : j < 64) : (sysB K M B P)[1 + p * 66 + 2 + j]? = some (.int .u8 (B p j)) := by
  unfold sysB; rw [memA_get (by omega), Nat.add_assoc (1 + p * 66), sysF_page hp (by omega)]; unfold pageF
  rw [if_neg (by omega), if_neg (by omega), show 2 + j - 2 = j by omega]
/-- Two blocks that agree but for the cells of pages. -/
theorem sys_ext {F : Nat → AV} {K' : Nat → Int} {M' : Nat → Bool} {B' : Nat → Nat → Int} {P' : List AV} (h0 : F 0 = .bool true) (hp : ∀ p, p < 1024 → ∀ j, j < 66 → F (1 + p * 66 + j) = pageF K' M' B' p j) (hP : ∀ i, i < 15 → F (67585 + i) = P'[i]?.getD .undef) : memA 67600 F = sysB K' M' B' P' := by
  unfold sysB
  refine memA_congr fun i hi => ?_
  by_cases h1 : i = 0
  · subst h1; exact h0
  · by_cases h2 : i < 67585
    · have e : i = 1 + (i - 1) / 66 * 66 + (i - 1) % 66 := by omega
      have hq : (i - 1) / 66 < 1024 := by omega
      have hr : (i - 1) % 66 < 66 := by omega
      have e1 := hp _ hq _ hr
      have e2 := sysF_page (K := K') (M := M') (B := B') (P := P') hq hr
      rw [← e] at e1 e2
      rw [e1, e2]
    · have e := hP (i - 67585) (by omega)
      rw [show 67585 + (i - 67585) = i by omega] at e
      rw [e]; unfold sysF; rw [if_neg h1, if_neg h2]
theorem ref_ext {F : Nat → AV} {K' : Nat → Int} {G' : Nat → Bool} {B' : Nat → Nat → Int} {P' : List AV} (hk : ∀ p, p < 1024 → F p = .int .i64 (K' p)) (hg : ∀ g, g < 64 → F (1024 + g) = .bool (G' g)) (hb : ∀ p, p < 1024 → ∀ j, j < 64 → F (1088 + p * 64 + j) = .int .u8 (B' p j)) (hP : ∀ i, i < 15 → F (66624 + i) = P'[i]?.getD .undef) : memA 66639 F = refK K' G' B' P' := by
  unfold refK
  refine memA_congr fun i hi => ?_
  unfold refF
  by_cases h1 : i < 1024
  · rw [if_pos h1, hk i h1]
  · rw [if_neg h1]
    by_cases h2 : i < 1088
    · rw [if_pos h2]
      have e := hg (i - 1024) (by omega)
      rw [show 1024 + (i - 1024) = i by omega] at e; exact e
    · rw [if_neg h2]
      by_cases h3 : i < 66624
      · rw [if_pos h3]
        have e1 := hb ((i - 1088) / 64) (by omega) ((i - 1088) % 64) (by omega)
        rw [show 1088 + (i - 1088) / 64 * 64 + (i - 1088) % 64 = i by omega] at e1; exact e1
      · rw [if_neg h3]
        have e := hP (i - 66624) (by omega)
        rw [show 66624 + (i - 66624) = i by omega] at e; exact e
theorem sysF_plan {i : Nat} : sysF K M B P (67585 + i) = P[i]?.getD .undef := by
  unfold sysF; rw [if_neg (by omega), if_neg (by omega), show 67585 + i - 67585 = i by omega]
theorem sys_setHuge (hp : p < 1024) : (sysB K M B P).set (1 + p * 66 + 1) (.bool b) = sysB K (updB M p b) B P := by
  rw [sysB, memA_set]
  refine sys_ext (by rw [if_neg (by omega)]; rfl) (fun q hq j hj => ?_) fun i hi => by rw [if_neg (by omega), sysF_plan]
  rw [sysF_page hq hj]; unfold pageF updB
  by_cases h1 : j = 1
  · by_cases h2 : q = p
    · rw [if_pos (by subst h1; subst h2; omega), if_neg (by omega), if_pos h1, if_pos h2]
    · rw [if_neg (by omega), if_neg (show ¬ j = 0 by omega), if_neg (show ¬ j = 0 by omega), if_pos h1, if_pos h1, if_neg h2]
  · rw [if_neg (by omega)]
    by_cases h3 : j = 0
    · rw [if_pos h3, if_pos h3]
    · rw [if_neg h3, if_neg h3, if_neg h1, if_neg h1]
theorem sys_setByte (hp : p < 1024) (hj : j < 64) : (sysB K M B P).set (1 + p * 66 + 2 + j) (.int .u8 v) = sysB K M (updP B p (updI (B p) j v)) P := by
  rw [sysB, memA_set]
  refine sys_ext (by rw [if_neg (by omega)]; rfl) (fun q hq k hk => ?_) fun i hi => by rw [if_neg (by omega), sysF_plan]
  rw [sysF_page hq hk]; unfold pageF updP
  by_cases h0 : k = 0
  · rw [if_neg (by omega), if_pos h0, if_pos h0]
  · by_cases h1 : k = 1
    · rw [if_neg (by omega), if_neg h0, if_neg h0, if_pos h1, if_pos h1]
    · rw [if_neg h0, if_neg h0, if_neg h1, if_neg h1]
      by_cases h2 : q = p
      · subst h2
        rw [if_pos rfl]; unfold updI
        by_cases h3 : k = 2 + j
        · rw [if_pos (by omega), if_pos (by omega)]
        · rw [if_neg (by omega), if_neg (by omega)]
      · rw [if_neg (by omega), if_neg h2]
def pgA (k : Int) : List AV := .int .i64 k :: .bool false :: List.replicate 64 (.int .u8 0)
theorem sys_setPage (hp : p < 1024) : over (sysB K M B P) (1 + p * 66) (pgA v) = sysB (updI K p v) (updB M p false) (updP B p fun _ => 0) P := by
  have hl : (pgA v).length = 66 := by simp [pgA]
  rw [sysB, memA_over]
  simp only [hl]
  refine sys_ext (by rw [if_neg (by omega)]; rfl) (fun q hq j hj => ?_) fun i hi => by rw [if_neg (by omega), sysF_plan]
  by_cases h2 : q = p
  · subst h2
    rw [if_pos (by omega), show 1 + q * 66 + j - (1 + q * 66) = j by omega]
    unfold pageF updI updB updP
    rw [if_pos rfl, if_pos rfl, if_pos rfl]
    match j with
    | 0 => rfl
    | 1 => rfl
    | j + 2 => rw [if_neg (by omega), if_neg (by omega)]; show (List.replicate 64 (AV.int .u8 0))[j]?.getD .undef = _; rw [List.getElem?_replicate, if_pos (by omega)]; rfl
  · rw [if_neg (by omega), sysF_page hq hj]; unfold pageF updI updB updP
    rw [if_neg h2, if_neg h2, if_neg h2]
theorem sys_plan (hP : P.length = 15) : ((sysB K M B P).drop 67585).take 15 = P := by
  rw [sysB, memA_part (by decide)]
  refine List.ext_getElem? fun j => ?_
  by_cases hj : j < 15
  · simp only [List.getElem?_map, List.getElem?_range hj, Option.map_some, sysF_plan]
    rw [List.getElem?_eq_getElem (by omega)]; rfl
  · rw [List.getElem?_eq_none (by simp; omega), List.getElem?_eq_none (by omega)]
theorem sys_setPlan {P' : List AV} (hP : P'.length = 15) : over (sysB K M B P) 67585 P' = sysB K M B P' := by
  rw [sysB, memA_over]
  refine sys_ext (by rw [if_neg (by omega)]; rfl) (fun q hq j hj => by rw [if_neg (by omega), sysF_page hq hj]) fun i hi => by rw [if_pos (by omega), show 67585 + i - 67585 = i by omega]
theorem rfk_kind (hp : p < 1024) : (refK K G B P)[p]? = some (.int .i64 (K p)) := by unfold refK; rw [memA_get (by omega)]; unfold refF; rw [if_pos hp]
theorem rfk_huge (hp : p < 64) : (refK K G B P)[1024 + p]? = some (.bool (G p)) := by unfold refK; rw [memA_get (by omega)]; unfold refF; rw [if_neg (by omega), if_pos (by omega), show 1024 + p - 1024 = p by omega]
theorem refF_byte (hp : p < 1024) (hj : j < 64) : refF K G B P (1088 + p * 64 + j) = .int .u8 (B p j) := by
  unfold refF; rw [if_neg (by omega), if_neg (by omega), if_pos (by omega), show (1088 + p * 64 + j - 1088) / 64 = p by omega, show (1088 + p * 64 + j - 1088) % 64 = j by omega]
theorem rfk_byte (hp : p < 1024) (hj : j < 64) : (refK K G B P)[1088 + p * 64 + j]? = some (.int .u8 (B p j)) := by unfold refK; rw [memA_get (by omega), refF_byte hp hj]
theorem refF_kind (hp : p < 1024) : refF K G B P p = .int .i64 (K p) := by unfold refF; rw [if_pos hp]
theorem refF_huge (hp : p < 64) : refF K G B P (1024 + p) = .bool (G p) := by unfold refF; rw [if_neg (by omega), if_pos (by omega), show 1024 + p - 1024 = p by omega]
theorem refF_plan {i : Nat} : refF K G B P (66624 + i) = P[i]?.getD .undef := by unfold refF; rw [if_neg (by omega), if_neg (by omega), if_neg (by omega), show 66624 + i - 66624 = i by omega]
theorem rfk_setKind (hp : p < 1024) : (refK K G B P).set p (.int .i64 v) = refK (updI K p v) G B P := by
  rw [refK, memA_set]
  refine ref_ext (fun q hq => ?_) (fun g hg => by rw [if_neg (by omega), refF_huge hg]) (fun q hq j hj => by rw [if_neg (by omega), refF_byte hq hj]) fun i hi => by rw [if_neg (by omega), refF_plan]
  unfold updI
  by_cases h : q = p
  · rw [if_pos h, if_pos h]
  · rw [if_neg h, if_neg h, refF_kind hq]
theorem rfk_setHuge (hp : p < 64) : (refK K G B P).set (1024 + p) (.bool b) = refK K (updB G p b) B P := by
  rw [refK, memA_set]
  refine ref_ext (fun q hq => by rw [if_neg (by omega), refF_kind hq]) (fun g hg => ?_) (fun q hq j hj => by rw [if_neg (by omega), refF_byte hq hj]) fun i hi => by rw [if_neg (by omega), refF_plan]
  unfold updB
  by_cases h : g = p
  · rw [if_pos (by omega), if_pos h]
  · rw [if_neg (by omega), if_neg h, refF_huge hg]
theorem rfk_setByte (hp : p < 1024) (hj : j < 64) : (refK K G B P).set (1088 + p * 64 + j) (.int .u8 v) = refK K G (updP B p (updI (B p) j v)) P := by
  rw [refK, memA_set]
  refine ref_ext (fun q hq => by rw [if_neg (by omega), refF_kind hq]) (fun g hg => by rw [if_neg (by omega), refF_huge hg]) (fun q hq k hk => ?_) fun i hi => by rw [if_neg (by omega), refF_plan]
  rw [refF_byte hq hk]; unfold updP updI
  by_cases h2 : q = p
  · subst h2
    rw [if_pos rfl]
    by_cases h3 : k = j
    · rw [if_pos (by omega), if_pos h3]
    · rw [if_neg (by omega), if_neg h3]
  · rw [if_neg (by omega), if_neg h2]
theorem rfk_setPage (hp : p < 1024) : over (refK K G B P) (1088 + p * 64) (List.replicate 64 (.int .u8 0)) = refK K G (updP B p fun _ => 0) P := by
  rw [refK, memA_over]
  simp only [List.length_replicate]
  refine ref_ext (fun q hq => by rw [if_neg (by omega), refF_kind hq]) (fun g hg => by rw [if_neg (by omega), refF_huge hg]) (fun q hq k hk => ?_) fun i hi => by rw [if_neg (by omega), refF_plan]
  rw [refF_byte hq hk]; unfold updP
  by_cases h2 : q = p
  · subst h2
    rw [if_pos (by omega), if_pos rfl, show 1088 + q * 64 + k - (1088 + q * 64) = k by omega, List.getElem?_replicate, if_pos hk]; rfl
  · rw [if_neg (by omega), if_neg h2]
theorem rfk_plan (hP : P.length = 15) : ((refK K G B P).drop 66624).take 15 = P := by
  rw [refK, memA_part (by decide)]
  refine List.ext_getElem? fun j => ?_
  by_cases hj : j < 15
  · simp only [List.getElem?_map, List.getElem?_range hj, Option.map_some, refF_plan]
    rw [List.getElem?_eq_getElem (by omega)]; rfl
  · rw [List.getElem?_eq_none (by simp; omega), List.getElem?_eq_none (by omega)]
theorem rfk_setPlan {P' : List AV} (hP : P'.length = 15) : over (refK K G B P) 66624 P' = refK K G B P' := by
  rw [refK, memA_over]
  refine ref_ext (fun q hq => by rw [if_neg (by omega), refF_kind hq]) (fun g hg => by rw [if_neg (by omega), refF_huge hg]) (fun q hq j hj => by rw [if_neg (by omega), refF_byte hq hj]) fun i hi => by rw [if_pos (by omega), show 66624 + i - 66624 = i by omega]
theorem getD_plain {i : Nat} (hP : ∀ x ∈ P, Plain x) : Plain (P[i]?.getD .undef) := by
  cases h : P[i]? with
  | none => exact plain_undef
  | some x => exact hP x (List.mem_of_getElem? h)
theorem sys_plain (hP : ∀ x ∈ P, Plain x) : ∀ x ∈ sysB K M B P, Plain x := by
  unfold sysB
  refine memA_plain fun i hi => ?_
  unfold sysF pageF
  split
  · exact plain_bool
  · split
    · split
      · exact plain_int
      · split
        · exact plain_bool
        · exact plain_int
    · exact getD_plain hP
theorem rfk_plain (hP : ∀ x ∈ P, Plain x) : ∀ x ∈ refK K G B P, Plain x := by
  unfold refK
  refine memA_plain fun i hi => ?_
  unfold refF
  split
  · exact plain_int
  · split
    · exact plain_bool
    · split
      · exact plain_int
      · exact getD_plain hP
end
end Go.Pol
