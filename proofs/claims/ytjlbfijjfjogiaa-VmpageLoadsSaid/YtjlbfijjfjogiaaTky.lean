/-
  Save of the document.
-/
import Derived.Test.YtjlbfijjfjogiaaTka
import Derived.Test.YtjlbfijjfjogiaaTkn00
import Derived.Test.YtjlbfijjfjogiaaTkn01
import Derived.Test.YtjlbfijjfjogiaaVmN
import Derived.Test.YtjlbfijjfjogiaaVmL
import Derived.Test.YtjlbfijjfjogiaaVmM
set_option linter.unusedSimpArgs false
set_option linter.unusedVariables false
namespace Go.Proofs.Ytjlbfijjfjogiaa
open Go Go.Am Go.Pol
section
variable {s : Sy} {o : Nat} {ho : o = 66624} {hlen : s.l.length ≤ 100000} {p : Nat}
theorem q_saveR (hlen : s.l.length ≤ 100000) : LocS 24 [] s.b (.agg (vsA s.saveR)) s.b := (skel s 66624 rfl hlen).2 fun p hp =>
  if hp4 : p < 1024 then
    if h0 : s.K p = 0 then
      if hu : p % 16 = 0 ∧ s.G (p / 16) = true then rd_free_h hp4 h0 hu else rd_free hp4 h0 hu
    else if hb : 0 < p ∧ s.K (p - 1) = s.K p then
      if hu : p % 16 = 0 ∧ s.G (p / 16) = true then
        if hd : s.K p = 2 ∧ ¬ zeroB (s.B p) then rd_bmp_11 hp4 h0 hb hu hd else rd_bmp_10 hp4 h0 hb hu hd
      else
        if hd : s.K p = 2 ∧ ¬ zeroB (s.B p) then rd_bmp_01 hp4 h0 hb hu hd else rd_bmp_00 hp4 h0 hb hu hd
    else if hp0 : 0 < p then
      if hu : p % 16 = 0 ∧ s.G (p / 16) = true then
        if hd : s.K p = 2 ∧ ¬ zeroB (s.B p) then rd_new_11 hp4 hp0 h0 hb hu hd else rd_new_10 hp4 hp0 h0 hb hu hd
      else
        if hd : s.K p = 2 ∧ ¬ zeroB (s.B p) then rd_new_01 hp4 hp0 h0 hb hu hd else rd_new_00 hp4 hp0 h0 hb hu hd
    else
      if hu : p % 16 = 0 ∧ s.G (p / 16) = true then
        if hd : s.K p = 2 ∧ ¬ zeroB (s.B p) then rd_nul_11 hp4 hp0 h0 hb hu hd else rd_nul_10 hp4 hp0 h0 hb hu hd
      else
        if hd : s.K p = 2 ∧ ¬ zeroB (s.B p) then rd_nul_01 hp4 hp0 h0 hb hu hd else rd_nul_00 hp4 hp0 h0 hb hu hd
  else rd_end (by omega)
end
end Go.Proofs.Ytjlbfijjfjogiaa
