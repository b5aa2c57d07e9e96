/-
 Several slices of their own that grow: they stand one behind the other at the heap's end. No program in sight.
-/
import Derived.Test.YtphggldkligldaaAmWt
set_option linter.unusedSimpArgs false
set_option linter.unusedVariables false
namespace Go.Am
section
variable {α:Type} {f:α→List AV} {L:List α} {d i:Nat} {r:List (Nat × AObj)}
theorem lk_tN (hz:L.length=0):lk (ownH d f L++r) i=lk r i:=by rw [ownH_z hz];rfl
theorem lk_tA {r':List (Nat × AObj)} (h:i ≠ d):lk (r'++ownH d f L) i=lk r' i:=by
 by_cases hz:L.length=0
 ·rw [ownH_z hz,List.append_nil]
 ·rw [ownH_s hz]
  induction r' with
  | nil=>simp [lk,h]
  | cons p r' ih=>obtain ⟨j,o⟩:=p;simp only [List.cons_append,lk];rw [ih]
theorem lk_ownO (h:i ≠ d):lk (ownH d f L) i=none:=by
 have:=lk_tA (f:=f) (L:=L) (r':=[]) h
 exact this
end
structure TlO (P:Program) (σ:Nat→Nat) (h h':Hp) (ks:List Nat) (tl:List (Nat × AObj)):Prop where
 key:∀ j o,lk tl j=some o→j ∈ ks
 sub:∀ j o,lk tl j=some o→∃ o',lk h.l (σ j)=some o'
 wko:SubH σ h h'→WkO P σ h h' tl
section
variable {P:Program} {σ:Nat→Nat} {h h':Hp} {ks:List Nat} {r:List (Nat × AObj)} {α:Type} {f:α→List AV} {L:List α} {i n:Nat}
end
end Go.Am
