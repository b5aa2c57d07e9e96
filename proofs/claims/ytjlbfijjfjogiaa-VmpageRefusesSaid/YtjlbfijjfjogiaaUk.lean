/-
  VmpageKeeps.
-/
import Derived.Test.YtjlbfijjfjogiaaVmI
import Derived.Test.YtjlbfijjfjogiaaTj
import Derived.Test.YtjlbfijjfjogiaaAmEig
set_option linter.unusedSimpArgs false
set_option linter.unusedVariables false
namespace Go.Pol
open Go.Am
theorem src_ac {l : List (Nat × AObj)} {R : List Ac} : srcV (lk l) 6 (.isl (R.map acA)) = some (flat acA R, R.length, []) := by
  simp only [srcV]
  rw [if_pos (by simp [acA]), List.length_map]
  rfl
theorem appV_none6 {l : List (Nat × AObj)} {nx d bytes n : Nat} {cs : List AV} {L : List Ac} (hL : L.length = 0) (hd : lk l d = some (.cells cs)) (hc : n * 6 ≤ cs.length) : appV (lk l) nx 6 bytes (.sl d 0 n n 6) (.isl (L.map acA)) = some (.sl d 0 n n 6, [(d, some (.cells cs))], [d]) := by
  obtain rfl := List.eq_nil_of_length_eq_zero hL
  simp only [appV, srcV, cellsAt, hd]
  simp [over, hc]
end Go.Pol
namespace Go.Proofs.Ytjlbfijjfjogiaa
open Go Go.Am Go.Pol
section
variable {p : List Rl} {l : List Ac} {x : Ac}
theorem cx_long {d n cp nx : Nat} {cs : List AV} {L : List Ac} {b : Bool} {hl : List (Nat × AObj)} {K : AV → Hp → Prop} (zl : PureS 20 [.agg [.isl (p.map rlA)], .isl (L.map acA)] (.bool b)) (hcs : lk hl d = some (.cells cs)) (hc : cs = flat acA L) (hn : n = L.length) (hk : K (.bool b) ⟨hl, nx⟩) :
    CallX Try.prog G0 (.fn 20 [] []) [.agg [.isl (p.map rlA)], .sl d 0 n cp 6] ⟨hl, nx⟩ K :=
  cx_fnU (fnU_frzR [d] zl.out plainG ⟨frz_plain plain_pl, frz_row (f := acA) ac_len (fun c => plain_acl) (by simp) (by rw [hcs, hc]) hn, trivial⟩ scal_bool) hk
end
end Go.Proofs.Ytjlbfijjfjogiaa
