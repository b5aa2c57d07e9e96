/-
  NARROWER THAN 'FOR EVERY INPUT', by the rows' own cells (each row's printed sentence says how): ZeroingWrites: laid · ZeroingExact: laid · ZeroingGives: laid · ZeroingChecks: laid · ZeroingCovers: laid · ZeroingOrder: laid.
  DERIVED. THE GIVEN ROWS OF THIS SEAT. 6 by the template 'for every input the law returns true; each argument reads behind the call as it read before'; 0 by the template 'total and deterministic' (their statements: YtjhmknnokloneaaDoorTotals.lean).
  GIVEN WITH THE SEED: the statements are not yours to turn. If you find one false, say at which input.
  Laid BY PROGRAM, IN A SANDBOX (cutbox-rows.mjs): the forced cells as the released guide's own fill.sh prints them over the translation 52ffd6e381896ffc… (all of the seat's roots in one cut). By AI agents, Wed Nov 11 2026. No macro, syntax, notation, axiom, sorry.
-/
import Derived.Test.YtjhmknnokloneaaDoorChecked
import GoSem.Claim
import GoSem.ClaimJoined
import GoSem.ClaimMapViews
import Derived.JoinedTies
import Derived.KernelRfl
namespace Go.Proofs.YtjhmknnokloneaaDoor
/- THE CELL 'sum', in the pinned program and in every row, IS THE sha256 OF THE DUMP (.gsa) THAT YtjhmknnokloneaaDoorProg.lean LOADS. Nothing in Lean hashes anything: it is a label: what it is worth is what the hold of that sum in a sandbox is worth. -/
noncomputable def Tryd.pinned : Pinned := { name := "ytjhmknnokloneaadoor", sum := "52ffd6e381896ffc42287f2e877608fcefddfd1f3ae312f03bbfabc5e2dd88a3", checked := Tryd.checked }
namespace Rows
def none {H : Type} : Left H := { results := [], args := [] }

/- WHAT THE LISTED PACKAGE-LEVEL VARIABLES READ AS WHEN THE CALL BEGINS. Each datum BY PROGRAM (the guide's laid-datum.mjs) off the statement by which the dump's own 'gosem.cut.vars' lays the variable. In a bare row this is a premise. The card (YtjhmknnokloneaaDoorCards.lean) ties it to the program's text. -/
def laid_math_bits_deBruijn64tab {H : Type} : DataW H := .agg [.lit (.int .u8 0), .lit (.int .u8 1), .lit (.int .u8 56), .lit (.int .u8 2), .lit (.int .u8 57), .lit (.int .u8 49), .lit (.int .u8 28), .lit (.int .u8 3), .lit (.int .u8 61), .lit (.int .u8 58), .lit (.int .u8 42), .lit (.int .u8 50), .lit (.int .u8 38), .lit (.int .u8 29), .lit (.int .u8 17), .lit (.int .u8 4), .lit (.int .u8 62), .lit (.int .u8 47), .lit (.int .u8 59), .lit (.int .u8 36), .lit (.int .u8 45), .lit (.int .u8 43), .lit (.int .u8 51), .lit (.int .u8 22), .lit (.int .u8 53), .lit (.int .u8 39), .lit (.int .u8 33), .lit (.int .u8 30), .lit (.int .u8 24), .lit (.int .u8 18), .lit (.int .u8 12), .lit (.int .u8 5), .lit (.int .u8 63), .lit (.int .u8 55), .lit (.int .u8 48), .lit (.int .u8 27), .lit (.int .u8 60), .lit (.int .u8 41), .lit (.int .u8 37), .lit (.int .u8 16), .lit (.int .u8 46), .lit (.int .u8 35), .lit (.int .u8 44), .lit (.int .u8 21), .lit (.int .u8 52), .lit (.int .u8 32), .lit (.int .u8 23), .lit (.int .u8 11), .lit (.int .u8 54), .lit (.int .u8 26), .lit (.int .u8 40), .lit (.int .u8 15), .lit (.int .u8 34), .lit (.int .u8 20), .lit (.int .u8 31), .lit (.int .u8 10), .lit (.int .u8 25), .lit (.int .u8 14), .lit (.int .u8 19), .lit (.int .u8 9), .lit (.int .u8 13), .lit (.int .u8 8), .lit (.int .u8 7), .lit (.int .u8 6)]

/-- 'polderlaw15.ZeroingWrites': WHATEVER THE INPUT: true; the input reads as it did. -/
def zeroingWritesSpec : ChangeSpec := { name := "zeroingWrites", fn := fun _ => fun
  | [d1, d2] => { results := [.lit (.bool true)], args := [d1, d2] }
  | _ => none }
def zeroingWritesRow : OpenClaim := { program := "ytjhmknnokloneaadoor", sum := "52ffd6e381896ffc42287f2e877608fcefddfd1f3ae312f03bbfabc5e2dd88a3", func := "polder/polderlaw15.ZeroingWrites", spec := "zeroingWrites", unfollowed := true, recurses := true, named := ["math/bits.deBruijn64tab"], apart := false, laid := [("math/bits.deBruijn64tab", laid_math_bits_deBruijn64tab)] }
def ZeroingWritesSaid : Prop := zeroingWritesRow.holds Tryd.pinned (OpenSpec.ofChange zeroingWritesSpec)

/-- ITS FALSE NEIGHBOUR: 'it returns false'. Refute it at one input. -/
def zeroingWritesWrong : ChangeSpec := { name := "zeroingWrites", fn := fun _ => fun
  | [d1, d2] => { results := [.lit (.bool false)], args := [d1, d2] }
  | _ => none }
def ZeroingWritesWrongFalsely : Prop := zeroingWritesRow.holds Tryd.pinned (OpenSpec.ofChange zeroingWritesWrong)

/-- 'polderlaw15.ZeroingExact': WHATEVER THE INPUT: true; the input reads as it did. -/
def zeroingExactSpec : ChangeSpec := { name := "zeroingExact", fn := fun _ => fun
  | [d1, d2] => { results := [.lit (.bool true)], args := [d1, d2] }
  | _ => none }
def zeroingExactRow : OpenClaim := { program := "ytjhmknnokloneaadoor", sum := "52ffd6e381896ffc42287f2e877608fcefddfd1f3ae312f03bbfabc5e2dd88a3", func := "polder/polderlaw15.ZeroingExact", spec := "zeroingExact", unfollowed := true, recurses := true, named := ["math/bits.deBruijn64tab"], apart := false, laid := [("math/bits.deBruijn64tab", laid_math_bits_deBruijn64tab)] }
def ZeroingExactSaid : Prop := zeroingExactRow.holds Tryd.pinned (OpenSpec.ofChange zeroingExactSpec)

/-- ITS FALSE NEIGHBOUR: 'it returns false'. Refute it at one input. -/
def zeroingExactWrong : ChangeSpec := { name := "zeroingExact", fn := fun _ => fun
  | [d1, d2] => { results := [.lit (.bool false)], args := [d1, d2] }
  | _ => none }
def ZeroingExactWrongFalsely : Prop := zeroingExactRow.holds Tryd.pinned (OpenSpec.ofChange zeroingExactWrong)

/-- 'polderlaw15.ZeroingGives': WHATEVER THE INPUT: true; the input reads as it did. -/
def zeroingGivesSpec : ChangeSpec := { name := "zeroingGives", fn := fun _ => fun
  | [d1, d2] => { results := [.lit (.bool true)], args := [d1, d2] }
  | _ => none }
def zeroingGivesRow : OpenClaim := { program := "ytjhmknnokloneaadoor", sum := "52ffd6e381896ffc42287f2e877608fcefddfd1f3ae312f03bbfabc5e2dd88a3", func := "polder/polderlaw15.ZeroingGives", spec := "zeroingGives", unfollowed := true, recurses := true, named := ["math/bits.deBruijn64tab"], apart := false, laid := [("math/bits.deBruijn64tab", laid_math_bits_deBruijn64tab)] }
def ZeroingGivesSaid : Prop := zeroingGivesRow.holds Tryd.pinned (OpenSpec.ofChange zeroingGivesSpec)

/-- ITS FALSE NEIGHBOUR: 'it returns false'. Refute it at one input. -/
def zeroingGivesWrong : ChangeSpec := { name := "zeroingGives", fn := fun _ => fun
  | [d1, d2] => { results := [.lit (.bool false)], args := [d1, d2] }
  | _ => none }
def ZeroingGivesWrongFalsely : Prop := zeroingGivesRow.holds Tryd.pinned (OpenSpec.ofChange zeroingGivesWrong)

/-- 'polderlaw15.ZeroingChecks': WHATEVER THE INPUT: true; the input reads as it did. -/
def zeroingChecksSpec : ChangeSpec := { name := "zeroingChecks", fn := fun _ => fun
  | [d1, d2] => { results := [.lit (.bool true)], args := [d1, d2] }
  | _ => none }
def zeroingChecksRow : OpenClaim := { program := "ytjhmknnokloneaadoor", sum := "52ffd6e381896ffc42287f2e877608fcefddfd1f3ae312f03bbfabc5e2dd88a3", func := "polder/polderlaw15.ZeroingChecks", spec := "zeroingChecks", unfollowed := true, recurses := true, named := ["math/bits.deBruijn64tab"], apart := false, laid := [("math/bits.deBruijn64tab", laid_math_bits_deBruijn64tab)] }
def ZeroingChecksSaid : Prop := zeroingChecksRow.holds Tryd.pinned (OpenSpec.ofChange zeroingChecksSpec)

/-- ITS FALSE NEIGHBOUR: 'it returns false'. Refute it at one input. -/
def zeroingChecksWrong : ChangeSpec := { name := "zeroingChecks", fn := fun _ => fun
  | [d1, d2] => { results := [.lit (.bool false)], args := [d1, d2] }
  | _ => none }
def ZeroingChecksWrongFalsely : Prop := zeroingChecksRow.holds Tryd.pinned (OpenSpec.ofChange zeroingChecksWrong)

/-- 'polderlaw15.ZeroingCovers': WHATEVER THE INPUT: true; the input reads as it did. -/
def zeroingCoversSpec : ChangeSpec := { name := "zeroingCovers", fn := fun _ => fun
  | [d] => { results := [.lit (.bool true)], args := [d] }
  | _ => none }
def zeroingCoversRow : OpenClaim := { program := "ytjhmknnokloneaadoor", sum := "52ffd6e381896ffc42287f2e877608fcefddfd1f3ae312f03bbfabc5e2dd88a3", func := "polder/polderlaw15.ZeroingCovers", spec := "zeroingCovers", unfollowed := true, recurses := true, named := ["math/bits.deBruijn64tab"], apart := false, laid := [("math/bits.deBruijn64tab", laid_math_bits_deBruijn64tab)] }
def ZeroingCoversSaid : Prop := zeroingCoversRow.holds Tryd.pinned (OpenSpec.ofChange zeroingCoversSpec)

/-- ITS FALSE NEIGHBOUR: 'it returns false'. Refute it at one input. -/
def zeroingCoversWrong : ChangeSpec := { name := "zeroingCovers", fn := fun _ => fun
  | [d] => { results := [.lit (.bool false)], args := [d] }
  | _ => none }
def ZeroingCoversWrongFalsely : Prop := zeroingCoversRow.holds Tryd.pinned (OpenSpec.ofChange zeroingCoversWrong)

/-- 'polderlaw15.ZeroingOrder': WHATEVER THE INPUT: true; the input reads as it did. -/
def zeroingOrderSpec : ChangeSpec := { name := "zeroingOrder", fn := fun _ => fun
  | [d1, d2] => { results := [.lit (.bool true)], args := [d1, d2] }
  | _ => none }
def zeroingOrderRow : OpenClaim := { program := "ytjhmknnokloneaadoor", sum := "52ffd6e381896ffc42287f2e877608fcefddfd1f3ae312f03bbfabc5e2dd88a3", func := "polder/polderlaw15.ZeroingOrder", spec := "zeroingOrder", unfollowed := true, recurses := true, named := ["math/bits.deBruijn64tab"], apart := false, laid := [("math/bits.deBruijn64tab", laid_math_bits_deBruijn64tab)] }
def ZeroingOrderSaid : Prop := zeroingOrderRow.holds Tryd.pinned (OpenSpec.ofChange zeroingOrderSpec)

/-- ITS FALSE NEIGHBOUR: 'it returns false'. Refute it at one input. -/
def zeroingOrderWrong : ChangeSpec := { name := "zeroingOrder", fn := fun _ => fun
  | [d1, d2] => { results := [.lit (.bool false)], args := [d1, d2] }
  | _ => none }
def ZeroingOrderWrongFalsely : Prop := zeroingOrderRow.holds Tryd.pinned (OpenSpec.ofChange zeroingOrderWrong)

/- THE SECOND FORM. 'bulk': how many values and letters a reading holds, each counted each time it is reached (what is shared counts as often as it is met; a slice's spare places count too). A statement '..UptoSaid' is the law's where the arguments, and the package variables that the reading takes, are together of bulk at most 1048576: NARROWER than '..Said'. Prove '..Said' where nothing that the law and all that it calls make is longer than what came in: it says more and counts as full. Else prove '..UptoSaid'. A law counts once. -/
mutual
def uptoBulk {H : Type} : DataW H → Nat
  | .lit (.string bytes) => bytes.length + 1
  | .lit _ => 1
  | .nil => 1
  | .ptr d => uptoBulk d + 1
  | .slice elems spare => uptoBulkAll elems + uptoBulkAll spare + 1
  | .agg parts => uptoBulkAll parts + 1
  | .iface _ d => uptoBulk d + 1
  | .map entries => uptoBulkEntries entries + 1
  | .held _ => 1
def uptoBulkAll {H : Type} : List (DataW H) → Nat
  | [] => 0
  | d :: r => uptoBulk d + uptoBulkAll r
def uptoBulkEntries {H : Type} : List (Lit × DataW H) → Nat
  | [] => 0
  | x :: r => uptoBulkEntry x + uptoBulkEntries r
def uptoBulkEntry {H : Type} : Lit × DataW H → Nat
  | (.string bytes, d) => bytes.length + uptoBulk d + 1
  | (_, d) => uptoBulk d + 1
 end
def uptoSmall : (H : Type) → List (DataW H) → Bool := fun _ ds => decide (uptoBulkAll ds ≤ 1048576)
def OpenSpec.upto (s : _root_.Go.ChangeSpec) : _root_.Go.OpenSpec := { _root_.Go.OpenSpec.ofChange s with cond := some uptoSmall }

/-- 'polderlaw15.ZeroingWrites', WHERE WHAT IT READS IS OF BULK AT MOST 1048576: true; the input reads as it did. -/
def zeroingWritesUptoRow : OpenClaim := { program := "ytjhmknnokloneaadoor", sum := "52ffd6e381896ffc42287f2e877608fcefddfd1f3ae312f03bbfabc5e2dd88a3", func := "polder/polderlaw15.ZeroingWrites", spec := "zeroingWrites", unfollowed := true, recurses := true, named := ["math/bits.deBruijn64tab"], apart := false, laid := [("math/bits.deBruijn64tab", laid_math_bits_deBruijn64tab)], narrowed := true }
def ZeroingWritesUptoSaid : Prop := zeroingWritesUptoRow.holds Tryd.pinned (OpenSpec.upto zeroingWritesSpec)

/-- 'polderlaw15.ZeroingExact', WHERE WHAT IT READS IS OF BULK AT MOST 1048576: true; the input reads as it did. -/
def zeroingExactUptoRow : OpenClaim := { program := "ytjhmknnokloneaadoor", sum := "52ffd6e381896ffc42287f2e877608fcefddfd1f3ae312f03bbfabc5e2dd88a3", func := "polder/polderlaw15.ZeroingExact", spec := "zeroingExact", unfollowed := true, recurses := true, named := ["math/bits.deBruijn64tab"], apart := false, laid := [("math/bits.deBruijn64tab", laid_math_bits_deBruijn64tab)], narrowed := true }
def ZeroingExactUptoSaid : Prop := zeroingExactUptoRow.holds Tryd.pinned (OpenSpec.upto zeroingExactSpec)

/-- 'polderlaw15.ZeroingGives', WHERE WHAT IT READS IS OF BULK AT MOST 1048576: true; the input reads as it did. -/
def zeroingGivesUptoRow : OpenClaim := { program := "ytjhmknnokloneaadoor", sum := "52ffd6e381896ffc42287f2e877608fcefddfd1f3ae312f03bbfabc5e2dd88a3", func := "polder/polderlaw15.ZeroingGives", spec := "zeroingGives", unfollowed := true, recurses := true, named := ["math/bits.deBruijn64tab"], apart := false, laid := [("math/bits.deBruijn64tab", laid_math_bits_deBruijn64tab)], narrowed := true }
def ZeroingGivesUptoSaid : Prop := zeroingGivesUptoRow.holds Tryd.pinned (OpenSpec.upto zeroingGivesSpec)

/-- 'polderlaw15.ZeroingChecks', WHERE WHAT IT READS IS OF BULK AT MOST 1048576: true; the input reads as it did. -/
def zeroingChecksUptoRow : OpenClaim := { program := "ytjhmknnokloneaadoor", sum := "52ffd6e381896ffc42287f2e877608fcefddfd1f3ae312f03bbfabc5e2dd88a3", func := "polder/polderlaw15.ZeroingChecks", spec := "zeroingChecks", unfollowed := true, recurses := true, named := ["math/bits.deBruijn64tab"], apart := false, laid := [("math/bits.deBruijn64tab", laid_math_bits_deBruijn64tab)], narrowed := true }
def ZeroingChecksUptoSaid : Prop := zeroingChecksUptoRow.holds Tryd.pinned (OpenSpec.upto zeroingChecksSpec)

/-- 'polderlaw15.ZeroingCovers', WHERE WHAT IT READS IS OF BULK AT MOST 1048576: true; the input reads as it did. -/
def zeroingCoversUptoRow : OpenClaim := { program := "ytjhmknnokloneaadoor", sum := "52ffd6e381896ffc42287f2e877608fcefddfd1f3ae312f03bbfabc5e2dd88a3", func := "polder/polderlaw15.ZeroingCovers", spec := "zeroingCovers", unfollowed := true, recurses := true, named := ["math/bits.deBruijn64tab"], apart := false, laid := [("math/bits.deBruijn64tab", laid_math_bits_deBruijn64tab)], narrowed := true }
def ZeroingCoversUptoSaid : Prop := zeroingCoversUptoRow.holds Tryd.pinned (OpenSpec.upto zeroingCoversSpec)

/-- 'polderlaw15.ZeroingOrder', WHERE WHAT IT READS IS OF BULK AT MOST 1048576: true; the input reads as it did. -/
def zeroingOrderUptoRow : OpenClaim := { program := "ytjhmknnokloneaadoor", sum := "52ffd6e381896ffc42287f2e877608fcefddfd1f3ae312f03bbfabc5e2dd88a3", func := "polder/polderlaw15.ZeroingOrder", spec := "zeroingOrder", unfollowed := true, recurses := true, named := ["math/bits.deBruijn64tab"], apart := false, laid := [("math/bits.deBruijn64tab", laid_math_bits_deBruijn64tab)], narrowed := true }
def ZeroingOrderUptoSaid : Prop := zeroingOrderUptoRow.holds Tryd.pinned (OpenSpec.upto zeroingOrderSpec)

end Rows
end Go.Proofs.YtjhmknnokloneaaDoor
