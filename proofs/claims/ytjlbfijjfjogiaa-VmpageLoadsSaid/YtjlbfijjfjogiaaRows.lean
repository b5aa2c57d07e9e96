/-
  No cell of these rows narrows 'for every input' (looked for: loops, veiled, ifaces, maps, wideKeys, modest, calm, conditions, laid).
  DERIVED. THE GIVEN ROWS OF THIS SEAT. 8 by the template 'for every input the law returns true; each argument reads behind the call as it read before'; 0 by the template 'total and deterministic' (their statements: YtjlbfijjfjogiaaTotals.lean).
  GIVEN WITH THE SEED: the statements are not yours to turn. If you find one false, say at which input.
  Laid BY PROGRAM, IN A SANDBOX (cutbox-rows.mjs): the forced cells as the released guide's own fill.sh prints them over the translation 2630a6eb40ec961b… (all of the seat's roots in one cut). By AI agents, Wed Nov 11 2026. No macro, syntax, notation, axiom, sorry.
-/
import Derived.Test.YtjlbfijjfjogiaaChecked
import GoSem.Claim
import GoSem.ClaimJoined
import GoSem.ClaimMapViews
import Derived.JoinedTies
import Derived.KernelRfl
namespace Go.Proofs.Ytjlbfijjfjogiaa
/- THE CELL 'sum', in the pinned program and in every row, IS THE sha256 OF THE DUMP (.gsa) THAT YtjlbfijjfjogiaaProg.lean LOADS. Nothing in Lean hashes anything: it is a label: what it is worth is what the hold of that sum in a sandbox is worth. -/
noncomputable def Try.pinned : Pinned := { name := "ytjlbfijjfjogiaa", sum := "2630a6eb40ec961bb40345e4cf2a778cc928eb3c61e6cab953d2dc1be31fda89", checked := Try.checked }
namespace Rows
def none {H : Type} : Left H := { results := [], args := [] }

/-- 'polderlaw06.VmpageLoads': WHATEVER THE INPUT: true; the input reads as it did. -/
def vmpageLoadsSpec : ChangeSpec := { name := "vmpageLoads", fn := fun _ => fun
  | [d] => { results := [.lit (.bool true)], args := [d] }
  | _ => none }
def vmpageLoadsRow : OpenClaim := { program := "ytjlbfijjfjogiaa", sum := "2630a6eb40ec961bb40345e4cf2a778cc928eb3c61e6cab953d2dc1be31fda89", func := "polder/polderlaw06.VmpageLoads", spec := "vmpageLoads", unfollowed := true, recurses := true, apart := false }
def VmpageLoadsSaid : Prop := vmpageLoadsRow.holds Try.pinned (OpenSpec.ofChange vmpageLoadsSpec)

/-- ITS FALSE NEIGHBOUR: 'it returns false'. Refute it at one input. -/
def vmpageLoadsWrong : ChangeSpec := { name := "vmpageLoads", fn := fun _ => fun
  | [d] => { results := [.lit (.bool false)], args := [d] }
  | _ => none }
def VmpageLoadsWrongFalsely : Prop := vmpageLoadsRow.holds Try.pinned (OpenSpec.ofChange vmpageLoadsWrong)

/-- 'polderlaw06.VmpageNone': WHATEVER THE INPUT: true; the input reads as it did. -/
def vmpageNoneSpec : ChangeSpec := { name := "vmpageNone", fn := fun _ => fun
  | [d] => { results := [.lit (.bool true)], args := [d] }
  | _ => none }
def vmpageNoneRow : OpenClaim := { program := "ytjlbfijjfjogiaa", sum := "2630a6eb40ec961bb40345e4cf2a778cc928eb3c61e6cab953d2dc1be31fda89", func := "polder/polderlaw06.VmpageNone", spec := "vmpageNone", unfollowed := true, recurses := true, apart := false }
def VmpageNoneSaid : Prop := vmpageNoneRow.holds Try.pinned (OpenSpec.ofChange vmpageNoneSpec)

/-- ITS FALSE NEIGHBOUR: 'it returns false'. Refute it at one input. -/
def vmpageNoneWrong : ChangeSpec := { name := "vmpageNone", fn := fun _ => fun
  | [d] => { results := [.lit (.bool false)], args := [d] }
  | _ => none }
def VmpageNoneWrongFalsely : Prop := vmpageNoneRow.holds Try.pinned (OpenSpec.ofChange vmpageNoneWrong)

/-- 'polderlaw06.VmpagePlays': WHATEVER THE INPUT: true; the input reads as it did. -/
def vmpagePlaysSpec : ChangeSpec := { name := "vmpagePlays", fn := fun _ => fun
  | [d1, d2] => { results := [.lit (.bool true)], args := [d1, d2] }
  | _ => none }
def vmpagePlaysRow : OpenClaim := { program := "ytjlbfijjfjogiaa", sum := "2630a6eb40ec961bb40345e4cf2a778cc928eb3c61e6cab953d2dc1be31fda89", func := "polder/polderlaw06.VmpagePlays", spec := "vmpagePlays", unfollowed := true, recurses := true, apart := false }
def VmpagePlaysSaid : Prop := vmpagePlaysRow.holds Try.pinned (OpenSpec.ofChange vmpagePlaysSpec)

/-- ITS FALSE NEIGHBOUR: 'it returns false'. Refute it at one input. -/
def vmpagePlaysWrong : ChangeSpec := { name := "vmpagePlays", fn := fun _ => fun
  | [d1, d2] => { results := [.lit (.bool false)], args := [d1, d2] }
  | _ => none }
def VmpagePlaysWrongFalsely : Prop := vmpagePlaysRow.holds Try.pinned (OpenSpec.ofChange vmpagePlaysWrong)

/-- 'polderlaw06.VmpageKeeps': WHATEVER THE INPUT: true; the input reads as it did. -/
def vmpageKeepsSpec : ChangeSpec := { name := "vmpageKeeps", fn := fun _ => fun
  | [d1, d2, d3] => { results := [.lit (.bool true)], args := [d1, d2, d3] }
  | _ => none }
def vmpageKeepsRow : OpenClaim := { program := "ytjlbfijjfjogiaa", sum := "2630a6eb40ec961bb40345e4cf2a778cc928eb3c61e6cab953d2dc1be31fda89", func := "polder/polderlaw06.VmpageKeeps", spec := "vmpageKeeps", unfollowed := true, recurses := true, apart := false }
def VmpageKeepsSaid : Prop := vmpageKeepsRow.holds Try.pinned (OpenSpec.ofChange vmpageKeepsSpec)

/-- ITS FALSE NEIGHBOUR: 'it returns false'. Refute it at one input. -/
def vmpageKeepsWrong : ChangeSpec := { name := "vmpageKeeps", fn := fun _ => fun
  | [d1, d2, d3] => { results := [.lit (.bool false)], args := [d1, d2, d3] }
  | _ => none }
def VmpageKeepsWrongFalsely : Prop := vmpageKeepsRow.holds Try.pinned (OpenSpec.ofChange vmpageKeepsWrong)

/-- 'polderlaw06.VmpageBytes': WHATEVER THE INPUT: true; the input reads as it did. -/
def vmpageBytesSpec : ChangeSpec := { name := "vmpageBytes", fn := fun _ => fun
  | [d1, d2, d3] => { results := [.lit (.bool true)], args := [d1, d2, d3] }
  | _ => none }
def vmpageBytesRow : OpenClaim := { program := "ytjlbfijjfjogiaa", sum := "2630a6eb40ec961bb40345e4cf2a778cc928eb3c61e6cab953d2dc1be31fda89", func := "polder/polderlaw06.VmpageBytes", spec := "vmpageBytes", unfollowed := true, recurses := true, apart := false }
def VmpageBytesSaid : Prop := vmpageBytesRow.holds Try.pinned (OpenSpec.ofChange vmpageBytesSpec)

/-- ITS FALSE NEIGHBOUR: 'it returns false'. Refute it at one input. -/
def vmpageBytesWrong : ChangeSpec := { name := "vmpageBytes", fn := fun _ => fun
  | [d1, d2, d3] => { results := [.lit (.bool false)], args := [d1, d2, d3] }
  | _ => none }
def VmpageBytesWrongFalsely : Prop := vmpageBytesRow.holds Try.pinned (OpenSpec.ofChange vmpageBytesWrong)

/-- 'polderlaw06.VmpageCounts': WHATEVER THE INPUT: true; the input reads as it did. -/
def vmpageCountsSpec : ChangeSpec := { name := "vmpageCounts", fn := fun _ => fun
  | [d1, d2] => { results := [.lit (.bool true)], args := [d1, d2] }
  | _ => none }
def vmpageCountsRow : OpenClaim := { program := "ytjlbfijjfjogiaa", sum := "2630a6eb40ec961bb40345e4cf2a778cc928eb3c61e6cab953d2dc1be31fda89", func := "polder/polderlaw06.VmpageCounts", spec := "vmpageCounts", unfollowed := true, recurses := true, apart := false }
def VmpageCountsSaid : Prop := vmpageCountsRow.holds Try.pinned (OpenSpec.ofChange vmpageCountsSpec)

/-- ITS FALSE NEIGHBOUR: 'it returns false'. Refute it at one input. -/
def vmpageCountsWrong : ChangeSpec := { name := "vmpageCounts", fn := fun _ => fun
  | [d1, d2] => { results := [.lit (.bool false)], args := [d1, d2] }
  | _ => none }
def VmpageCountsWrongFalsely : Prop := vmpageCountsRow.holds Try.pinned (OpenSpec.ofChange vmpageCountsWrong)

/-- 'polderlaw06.VmpageRefuses': WHATEVER THE INPUT: true; the input reads as it did. -/
def vmpageRefusesSpec : ChangeSpec := { name := "vmpageRefuses", fn := fun _ => fun
  | [d1, d2, d3] => { results := [.lit (.bool true)], args := [d1, d2, d3] }
  | _ => none }
def vmpageRefusesRow : OpenClaim := { program := "ytjlbfijjfjogiaa", sum := "2630a6eb40ec961bb40345e4cf2a778cc928eb3c61e6cab953d2dc1be31fda89", func := "polder/polderlaw06.VmpageRefuses", spec := "vmpageRefuses", unfollowed := true, recurses := true, apart := false }
def VmpageRefusesSaid : Prop := vmpageRefusesRow.holds Try.pinned (OpenSpec.ofChange vmpageRefusesSpec)

/-- ITS FALSE NEIGHBOUR: 'it returns false'. Refute it at one input. -/
def vmpageRefusesWrong : ChangeSpec := { name := "vmpageRefuses", fn := fun _ => fun
  | [d1, d2, d3] => { results := [.lit (.bool false)], args := [d1, d2, d3] }
  | _ => none }
def VmpageRefusesWrongFalsely : Prop := vmpageRefusesRow.holds Try.pinned (OpenSpec.ofChange vmpageRefusesWrong)

/-- 'polderlaw06.VmpageBack': WHATEVER THE INPUT: true; the input reads as it did. -/
def vmpageBackSpec : ChangeSpec := { name := "vmpageBack", fn := fun _ => fun
  | [d] => { results := [.lit (.bool true)], args := [d] }
  | _ => none }
def vmpageBackRow : OpenClaim := { program := "ytjlbfijjfjogiaa", sum := "2630a6eb40ec961bb40345e4cf2a778cc928eb3c61e6cab953d2dc1be31fda89", func := "polder/polderlaw06.VmpageBack", spec := "vmpageBack", unfollowed := true, recurses := true, apart := false }
def VmpageBackSaid : Prop := vmpageBackRow.holds Try.pinned (OpenSpec.ofChange vmpageBackSpec)

/-- ITS FALSE NEIGHBOUR: 'it returns false'. Refute it at one input. -/
def vmpageBackWrong : ChangeSpec := { name := "vmpageBack", fn := fun _ => fun
  | [d] => { results := [.lit (.bool false)], args := [d] }
  | _ => none }
def VmpageBackWrongFalsely : Prop := vmpageBackRow.holds Try.pinned (OpenSpec.ofChange vmpageBackWrong)

/- THE SECOND FORM. 'bulk': how many values and letters a reading holds, each counted each time it is reached (what is shared counts as often as it is met; a slice's spare places count too). A statement '..UptoSaid' is the law's where the arguments, and the package variables that the reading takes, are together of bulk at most 1048576: NARROWER than '..Said'. Prove '..Said' where nothing that the law and all that it calls make is longer than what came in: it says more and counts as full. Else prove '..UptoSaid'. A law counts once. -/
mutual
def uptoBulk {H : Type} : DataW H → Nat
  | .lit (.string bytes) => bytes.length + 1
  | .lit _ => 1
  | .nil => 1
  | .ptr d => uptoBulk d + 1
  | .slice elems spare => uptoBulkAll elems + uptoBulkAll spare + 1
  | .agg parts => uptoBulkAll parts + 1
  | .iface _ d => uptoBulk d + 1
  | .map entries => uptoBulkEntries entries + 1
  | .held _ => 1
def uptoBulkAll {H : Type} : List (DataW H) → Nat
  | [] => 0
  | d :: r => uptoBulk d + uptoBulkAll r
def uptoBulkEntries {H : Type} : List (Lit × DataW H) → Nat
  | [] => 0
  | x :: r => uptoBulkEntry x + uptoBulkEntries r
def uptoBulkEntry {H : Type} : Lit × DataW H → Nat
  | (.string bytes, d) => bytes.length + uptoBulk d + 1
  | (_, d) => uptoBulk d + 1
 end
def uptoSmall : (H : Type) → List (DataW H) → Bool := fun _ ds => decide (uptoBulkAll ds ≤ 1048576)
def OpenSpec.upto (s : _root_.Go.ChangeSpec) : _root_.Go.OpenSpec := { _root_.Go.OpenSpec.ofChange s with cond := some uptoSmall }

/-- 'polderlaw06.VmpageLoads', WHERE WHAT IT READS IS OF BULK AT MOST 1048576: true; the input reads as it did. -/
def vmpageLoadsUptoRow : OpenClaim := { program := "ytjlbfijjfjogiaa", sum := "2630a6eb40ec961bb40345e4cf2a778cc928eb3c61e6cab953d2dc1be31fda89", func := "polder/polderlaw06.VmpageLoads", spec := "vmpageLoads", unfollowed := true, recurses := true, apart := false, narrowed := true }
def VmpageLoadsUptoSaid : Prop := vmpageLoadsUptoRow.holds Try.pinned (OpenSpec.upto vmpageLoadsSpec)

/-- 'polderlaw06.VmpageNone', WHERE WHAT IT READS IS OF BULK AT MOST 1048576: true; the input reads as it did. -/
def vmpageNoneUptoRow : OpenClaim := { program := "ytjlbfijjfjogiaa", sum := "2630a6eb40ec961bb40345e4cf2a778cc928eb3c61e6cab953d2dc1be31fda89", func := "polder/polderlaw06.VmpageNone", spec := "vmpageNone", unfollowed := true, recurses := true, apart := false, narrowed := true }
def VmpageNoneUptoSaid : Prop := vmpageNoneUptoRow.holds Try.pinned (OpenSpec.upto vmpageNoneSpec)

/-- 'polderlaw06.VmpagePlays', WHERE WHAT IT READS IS OF BULK AT MOST 1048576: true; the input reads as it did. -/
def vmpagePlaysUptoRow : OpenClaim := { program := "ytjlbfijjfjogiaa", sum := "2630a6eb40ec961bb40345e4cf2a778cc928eb3c61e6cab953d2dc1be31fda89", func := "polder/polderlaw06.VmpagePlays", spec := "vmpagePlays", unfollowed := true, recurses := true, apart := false, narrowed := true }
def VmpagePlaysUptoSaid : Prop := vmpagePlaysUptoRow.holds Try.pinned (OpenSpec.upto vmpagePlaysSpec)

/-- 'polderlaw06.VmpageKeeps', WHERE WHAT IT READS IS OF BULK AT MOST 1048576: true; the input reads as it did. -/
def vmpageKeepsUptoRow : OpenClaim := { program := "ytjlbfijjfjogiaa", sum := "2630a6eb40ec961bb40345e4cf2a778cc928eb3c61e6cab953d2dc1be31fda89", func := "polder/polderlaw06.VmpageKeeps", spec := "vmpageKeeps", unfollowed := true, recurses := true, apart := false, narrowed := true }
def VmpageKeepsUptoSaid : Prop := vmpageKeepsUptoRow.holds Try.pinned (OpenSpec.upto vmpageKeepsSpec)

/-- 'polderlaw06.VmpageBytes', WHERE WHAT IT READS IS OF BULK AT MOST 1048576: true; the input reads as it did. -/
def vmpageBytesUptoRow : OpenClaim := { program := "ytjlbfijjfjogiaa", sum := "2630a6eb40ec961bb40345e4cf2a778cc928eb3c61e6cab953d2dc1be31fda89", func := "polder/polderlaw06.VmpageBytes", spec := "vmpageBytes", unfollowed := true, recurses := true, apart := false, narrowed := true }
def VmpageBytesUptoSaid : Prop := vmpageBytesUptoRow.holds Try.pinned (OpenSpec.upto vmpageBytesSpec)

/-- 'polderlaw06.VmpageCounts', WHERE WHAT IT READS IS OF BULK AT MOST 1048576: true; the input reads as it did. -/
def vmpageCountsUptoRow : OpenClaim := { program := "ytjlbfijjfjogiaa", sum := "2630a6eb40ec961bb40345e4cf2a778cc928eb3c61e6cab953d2dc1be31fda89", func := "polder/polderlaw06.VmpageCounts", spec := "vmpageCounts", unfollowed := true, recurses := true, apart := false, narrowed := true }
def VmpageCountsUptoSaid : Prop := vmpageCountsUptoRow.holds Try.pinned (OpenSpec.upto vmpageCountsSpec)

/-- 'polderlaw06.VmpageRefuses', WHERE WHAT IT READS IS OF BULK AT MOST 1048576: true; the input reads as it did. -/
def vmpageRefusesUptoRow : OpenClaim := { program := "ytjlbfijjfjogiaa", sum := "2630a6eb40ec961bb40345e4cf2a778cc928eb3c61e6cab953d2dc1be31fda89", func := "polder/polderlaw06.VmpageRefuses", spec := "vmpageRefuses", unfollowed := true, recurses := true, apart := false, narrowed := true }
def VmpageRefusesUptoSaid : Prop := vmpageRefusesUptoRow.holds Try.pinned (OpenSpec.upto vmpageRefusesSpec)

/-- 'polderlaw06.VmpageBack', WHERE WHAT IT READS IS OF BULK AT MOST 1048576: true; the input reads as it did. -/
def vmpageBackUptoRow : OpenClaim := { program := "ytjlbfijjfjogiaa", sum := "2630a6eb40ec961bb40345e4cf2a778cc928eb3c61e6cab953d2dc1be31fda89", func := "polder/polderlaw06.VmpageBack", spec := "vmpageBack", unfollowed := true, recurses := true, apart := false, narrowed := true }
def VmpageBackUptoSaid : Prop := vmpageBackUptoRow.holds Try.pinned (OpenSpec.upto vmpageBackSpec)

end Rows
end Go.Proofs.Ytjlbfijjfjogiaa
