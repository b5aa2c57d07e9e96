/-
  No cell of these rows narrows 'for every input' (looked for: loops, veiled, ifaces, maps, wideKeys, modest, calm, conditions, laid).
  DERIVED. THE GIVEN ROWS OF THIS SEAT. 7 by the template 'for every input the law returns true; each argument reads behind the call as it read before'; 0 by the template 'total and deterministic' (their statements: YtccbhbdbmmkcdaaTotals.lean).
  GIVEN WITH THE SEED: the statements are not yours to turn. If you find one false, say at which input.
  Laid BY PROGRAM, IN A SANDBOX (cutbox-rows.mjs): the forced cells as the released guide's own fill.sh prints them over the translation eae830728ff14cf4… (all of the seat's roots in one cut). By AI agents, Wed Nov 11 2026. No macro, syntax, notation, axiom, sorry.
-/
import Derived.Test.YtccbhbdbmmkcdaaChecked
import GoSem.Claim
import GoSem.ClaimJoined
import GoSem.ClaimMapViews
import Derived.JoinedTies
import Derived.KernelRfl
namespace Go.Proofs.Ytccbhbdbmmkcdaa
/- THE CELL 'sum', in the pinned program and in every row, IS THE sha256 OF THE DUMP (.gsa) THAT YtccbhbdbmmkcdaaProg.lean LOADS. Nothing in Lean hashes anything: it is a label: what it is worth is what the hold of that sum in a sandbox is worth. -/
noncomputable def Try.pinned : Pinned := { name := "ytccbhbdbmmkcdaa", sum := "eae830728ff14cf44f13257877a67358367b036071d6119ace60043aaba842b9", checked := Try.checked }
namespace Rows
def none {H : Type} : Left H := { results := [], args := [] }

/-- 'polderlaw22.SharedCounts': WHATEVER THE INPUT: true; the input reads as it did. -/
def sharedCountsSpec : ChangeSpec := { name := "sharedCounts", fn := fun _ => fun
  | [d] => { results := [.lit (.bool true)], args := [d] }
  | _ => none }
def sharedCountsRow : OpenClaim := { program := "ytccbhbdbmmkcdaa", sum := "eae830728ff14cf44f13257877a67358367b036071d6119ace60043aaba842b9", func := "polder/polderlaw22.SharedCounts", spec := "sharedCounts", unfollowed := true, recurses := true, plainKeys := false, apart := false }
def SharedCountsSaid : Prop := sharedCountsRow.holds Try.pinned (OpenSpec.ofChange sharedCountsSpec)

/-- ITS FALSE NEIGHBOUR: 'it returns false'. Refute it at one input. -/
def sharedCountsWrong : ChangeSpec := { name := "sharedCounts", fn := fun _ => fun
  | [d] => { results := [.lit (.bool false)], args := [d] }
  | _ => none }
def SharedCountsWrongFalsely : Prop := sharedCountsRow.holds Try.pinned (OpenSpec.ofChange sharedCountsWrong)

/-- 'polderlaw22.SharedLoads': WHATEVER THE INPUT: true; the input reads as it did. -/
def sharedLoadsSpec : ChangeSpec := { name := "sharedLoads", fn := fun _ => fun
  | [d1, d2] => { results := [.lit (.bool true)], args := [d1, d2] }
  | _ => none }
def sharedLoadsRow : OpenClaim := { program := "ytccbhbdbmmkcdaa", sum := "eae830728ff14cf44f13257877a67358367b036071d6119ace60043aaba842b9", func := "polder/polderlaw22.SharedLoads", spec := "sharedLoads", unfollowed := true, recurses := true, plainKeys := false, apart := false }
def SharedLoadsSaid : Prop := sharedLoadsRow.holds Try.pinned (OpenSpec.ofChange sharedLoadsSpec)

/-- ITS FALSE NEIGHBOUR: 'it returns false'. Refute it at one input. -/
def sharedLoadsWrong : ChangeSpec := { name := "sharedLoads", fn := fun _ => fun
  | [d1, d2] => { results := [.lit (.bool false)], args := [d1, d2] }
  | _ => none }
def SharedLoadsWrongFalsely : Prop := sharedLoadsRow.holds Try.pinned (OpenSpec.ofChange sharedLoadsWrong)

/-- 'polderlaw22.SharedReads': WHATEVER THE INPUT: true; the input reads as it did. -/
def sharedReadsSpec : ChangeSpec := { name := "sharedReads", fn := fun _ => fun
  | [d1, d2, d3] => { results := [.lit (.bool true)], args := [d1, d2, d3] }
  | _ => none }
def sharedReadsRow : OpenClaim := { program := "ytccbhbdbmmkcdaa", sum := "eae830728ff14cf44f13257877a67358367b036071d6119ace60043aaba842b9", func := "polder/polderlaw22.SharedReads", spec := "sharedReads", unfollowed := true, recurses := true, plainKeys := false, apart := false }
def SharedReadsSaid : Prop := sharedReadsRow.holds Try.pinned (OpenSpec.ofChange sharedReadsSpec)

/-- ITS FALSE NEIGHBOUR: 'it returns false'. Refute it at one input. -/
def sharedReadsWrong : ChangeSpec := { name := "sharedReads", fn := fun _ => fun
  | [d1, d2, d3] => { results := [.lit (.bool false)], args := [d1, d2, d3] }
  | _ => none }
def SharedReadsWrongFalsely : Prop := sharedReadsRow.holds Try.pinned (OpenSpec.ofChange sharedReadsWrong)

/-- 'polderlaw22.SharedSplits': WHATEVER THE INPUT: true; the input reads as it did. -/
def sharedSplitsSpec : ChangeSpec := { name := "sharedSplits", fn := fun _ => fun
  | [d1, d2, d3] => { results := [.lit (.bool true)], args := [d1, d2, d3] }
  | _ => none }
def sharedSplitsRow : OpenClaim := { program := "ytccbhbdbmmkcdaa", sum := "eae830728ff14cf44f13257877a67358367b036071d6119ace60043aaba842b9", func := "polder/polderlaw22.SharedSplits", spec := "sharedSplits", unfollowed := true, recurses := true, plainKeys := false, apart := false }
def SharedSplitsSaid : Prop := sharedSplitsRow.holds Try.pinned (OpenSpec.ofChange sharedSplitsSpec)

/-- ITS FALSE NEIGHBOUR: 'it returns false'. Refute it at one input. -/
def sharedSplitsWrong : ChangeSpec := { name := "sharedSplits", fn := fun _ => fun
  | [d1, d2, d3] => { results := [.lit (.bool false)], args := [d1, d2, d3] }
  | _ => none }
def SharedSplitsWrongFalsely : Prop := sharedSplitsRow.holds Try.pinned (OpenSpec.ofChange sharedSplitsWrong)

/-- 'polderlaw22.SharedUndo': WHATEVER THE INPUT: true; the input reads as it did. -/
def sharedUndoSpec : ChangeSpec := { name := "sharedUndo", fn := fun _ => fun
  | [d1, d2, d3] => { results := [.lit (.bool true)], args := [d1, d2, d3] }
  | _ => none }
def sharedUndoRow : OpenClaim := { program := "ytccbhbdbmmkcdaa", sum := "eae830728ff14cf44f13257877a67358367b036071d6119ace60043aaba842b9", func := "polder/polderlaw22.SharedUndo", spec := "sharedUndo", unfollowed := true, recurses := true, plainKeys := false, apart := false }
def SharedUndoSaid : Prop := sharedUndoRow.holds Try.pinned (OpenSpec.ofChange sharedUndoSpec)

/-- ITS FALSE NEIGHBOUR: 'it returns false'. Refute it at one input. -/
def sharedUndoWrong : ChangeSpec := { name := "sharedUndo", fn := fun _ => fun
  | [d1, d2, d3] => { results := [.lit (.bool false)], args := [d1, d2, d3] }
  | _ => none }
def SharedUndoWrongFalsely : Prop := sharedUndoRow.holds Try.pinned (OpenSpec.ofChange sharedUndoWrong)

/-- 'polderlaw22.SharedKnown': WHATEVER THE INPUT: true; the input reads as it did. -/
def sharedKnownSpec : ChangeSpec := { name := "sharedKnown", fn := fun _ => fun
  | [] => { results := [.lit (.bool true)], args := [] }
  | _ => none }
def sharedKnownRow : OpenClaim := { program := "ytccbhbdbmmkcdaa", sum := "eae830728ff14cf44f13257877a67358367b036071d6119ace60043aaba842b9", func := "polder/polderlaw22.SharedKnown", spec := "sharedKnown", unfollowed := true, recurses := true, plainKeys := false, apart := false }
def SharedKnownSaid : Prop := sharedKnownRow.holds Try.pinned (OpenSpec.ofChange sharedKnownSpec)

/-- ITS FALSE NEIGHBOUR: 'it returns false'. Refute it at one input. -/
def sharedKnownWrong : ChangeSpec := { name := "sharedKnown", fn := fun _ => fun
  | [] => { results := [.lit (.bool false)], args := [] }
  | _ => none }
def SharedKnownWrongFalsely : Prop := sharedKnownRow.holds Try.pinned (OpenSpec.ofChange sharedKnownWrong)

/-- 'polderlaw22.SharedForks': WHATEVER THE INPUT: true; the input reads as it did. -/
def sharedForksSpec : ChangeSpec := { name := "sharedForks", fn := fun _ => fun
  | [d1, d2, d3] => { results := [.lit (.bool true)], args := [d1, d2, d3] }
  | _ => none }
def sharedForksRow : OpenClaim := { program := "ytccbhbdbmmkcdaa", sum := "eae830728ff14cf44f13257877a67358367b036071d6119ace60043aaba842b9", func := "polder/polderlaw22.SharedForks", spec := "sharedForks", unfollowed := true, recurses := true, plainKeys := false, apart := false }
def SharedForksSaid : Prop := sharedForksRow.holds Try.pinned (OpenSpec.ofChange sharedForksSpec)

/-- ITS FALSE NEIGHBOUR: 'it returns false'. Refute it at one input. -/
def sharedForksWrong : ChangeSpec := { name := "sharedForks", fn := fun _ => fun
  | [d1, d2, d3] => { results := [.lit (.bool false)], args := [d1, d2, d3] }
  | _ => none }
def SharedForksWrongFalsely : Prop := sharedForksRow.holds Try.pinned (OpenSpec.ofChange sharedForksWrong)

/- THE SECOND FORM. 'bulk': how many values and letters a reading holds, each counted each time it is reached (what is shared counts as often as it is met; a slice's spare places count too). A statement '..UptoSaid' is the law's where the arguments, and the package variables that the reading takes, are together of bulk at most 1048576: NARROWER than '..Said'. Prove '..Said' where nothing that the law and all that it calls make is longer than what came in: it says more and counts as full. Else prove '..UptoSaid'. A law counts once. -/
mutual
def uptoBulk {H : Type} : DataW H → Nat
  | .lit (.string bytes) => bytes.length + 1
  | .lit _ => 1
  | .nil => 1
  | .ptr d => uptoBulk d + 1
  | .slice elems spare => uptoBulkAll elems + uptoBulkAll spare + 1
  | .agg parts => uptoBulkAll parts + 1
  | .iface _ d => uptoBulk d + 1
  | .map entries => uptoBulkEntries entries + 1
  | .held _ => 1
def uptoBulkAll {H : Type} : List (DataW H) → Nat
  | [] => 0
  | d :: r => uptoBulk d + uptoBulkAll r
def uptoBulkEntries {H : Type} : List (Lit × DataW H) → Nat
  | [] => 0
  | x :: r => uptoBulkEntry x + uptoBulkEntries r
def uptoBulkEntry {H : Type} : Lit × DataW H → Nat
  | (.string bytes, d) => bytes.length + uptoBulk d + 1
  | (_, d) => uptoBulk d + 1
 end
def uptoSmall : (H : Type) → List (DataW H) → Bool := fun _ ds => decide (uptoBulkAll ds ≤ 1048576)
def OpenSpec.upto (s : _root_.Go.ChangeSpec) : _root_.Go.OpenSpec := { _root_.Go.OpenSpec.ofChange s with cond := some uptoSmall }

/-- 'polderlaw22.SharedCounts', WHERE WHAT IT READS IS OF BULK AT MOST 1048576: true; the input reads as it did. -/
def sharedCountsUptoRow : OpenClaim := { program := "ytccbhbdbmmkcdaa", sum := "eae830728ff14cf44f13257877a67358367b036071d6119ace60043aaba842b9", func := "polder/polderlaw22.SharedCounts", spec := "sharedCounts", unfollowed := true, recurses := true, plainKeys := false, apart := false, narrowed := true }
def SharedCountsUptoSaid : Prop := sharedCountsUptoRow.holds Try.pinned (OpenSpec.upto sharedCountsSpec)

/-- 'polderlaw22.SharedLoads', WHERE WHAT IT READS IS OF BULK AT MOST 1048576: true; the input reads as it did. -/
def sharedLoadsUptoRow : OpenClaim := { program := "ytccbhbdbmmkcdaa", sum := "eae830728ff14cf44f13257877a67358367b036071d6119ace60043aaba842b9", func := "polder/polderlaw22.SharedLoads", spec := "sharedLoads", unfollowed := true, recurses := true, plainKeys := false, apart := false, narrowed := true }
def SharedLoadsUptoSaid : Prop := sharedLoadsUptoRow.holds Try.pinned (OpenSpec.upto sharedLoadsSpec)

/-- 'polderlaw22.SharedReads', WHERE WHAT IT READS IS OF BULK AT MOST 1048576: true; the input reads as it did. -/
def sharedReadsUptoRow : OpenClaim := { program := "ytccbhbdbmmkcdaa", sum := "eae830728ff14cf44f13257877a67358367b036071d6119ace60043aaba842b9", func := "polder/polderlaw22.SharedReads", spec := "sharedReads", unfollowed := true, recurses := true, plainKeys := false, apart := false, narrowed := true }
def SharedReadsUptoSaid : Prop := sharedReadsUptoRow.holds Try.pinned (OpenSpec.upto sharedReadsSpec)

/-- 'polderlaw22.SharedSplits', WHERE WHAT IT READS IS OF BULK AT MOST 1048576: true; the input reads as it did. -/
def sharedSplitsUptoRow : OpenClaim := { program := "ytccbhbdbmmkcdaa", sum := "eae830728ff14cf44f13257877a67358367b036071d6119ace60043aaba842b9", func := "polder/polderlaw22.SharedSplits", spec := "sharedSplits", unfollowed := true, recurses := true, plainKeys := false, apart := false, narrowed := true }
def SharedSplitsUptoSaid : Prop := sharedSplitsUptoRow.holds Try.pinned (OpenSpec.upto sharedSplitsSpec)

/-- 'polderlaw22.SharedUndo', WHERE WHAT IT READS IS OF BULK AT MOST 1048576: true; the input reads as it did. -/
def sharedUndoUptoRow : OpenClaim := { program := "ytccbhbdbmmkcdaa", sum := "eae830728ff14cf44f13257877a67358367b036071d6119ace60043aaba842b9", func := "polder/polderlaw22.SharedUndo", spec := "sharedUndo", unfollowed := true, recurses := true, plainKeys := false, apart := false, narrowed := true }
def SharedUndoUptoSaid : Prop := sharedUndoUptoRow.holds Try.pinned (OpenSpec.upto sharedUndoSpec)

/-- 'polderlaw22.SharedKnown', WHERE WHAT IT READS IS OF BULK AT MOST 1048576: true; the input reads as it did. -/
def sharedKnownUptoRow : OpenClaim := { program := "ytccbhbdbmmkcdaa", sum := "eae830728ff14cf44f13257877a67358367b036071d6119ace60043aaba842b9", func := "polder/polderlaw22.SharedKnown", spec := "sharedKnown", unfollowed := true, recurses := true, plainKeys := false, apart := false, narrowed := true }
def SharedKnownUptoSaid : Prop := sharedKnownUptoRow.holds Try.pinned (OpenSpec.upto sharedKnownSpec)

/-- 'polderlaw22.SharedForks', WHERE WHAT IT READS IS OF BULK AT MOST 1048576: true; the input reads as it did. -/
def sharedForksUptoRow : OpenClaim := { program := "ytccbhbdbmmkcdaa", sum := "eae830728ff14cf44f13257877a67358367b036071d6119ace60043aaba842b9", func := "polder/polderlaw22.SharedForks", spec := "sharedForks", unfollowed := true, recurses := true, plainKeys := false, apart := false, narrowed := true }
def SharedForksUptoSaid : Prop := sharedForksUptoRow.holds Try.pinned (OpenSpec.upto sharedForksSpec)

end Rows
end Go.Proofs.Ytccbhbdbmmkcdaa
