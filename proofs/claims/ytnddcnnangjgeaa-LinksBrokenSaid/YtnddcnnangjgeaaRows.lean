/-
  No cell of these rows narrows 'for every input' (looked for: loops, veiled, ifaces, maps, wideKeys, modest, calm, conditions, laid).
  DERIVED. THE GIVEN ROWS OF THIS SEAT. 7 by the template 'for every input the law returns true; each argument reads behind the call as it read before'; 0 by the template 'total and deterministic' (their statements: YtnddcnnangjgeaaTotals.lean).
  GIVEN WITH THE SEED: the statements are not yours to turn. If you find one false, say at which input.
  Laid BY PROGRAM, IN A SANDBOX (cutbox-rows.mjs): the forced cells as the released guide's own fill.sh prints them over the translation ea064ec5a1db178c… (all of the seat's roots in one cut). By AI agents, Wed Nov 11 2026. No macro, syntax, notation, axiom, sorry.
-/
import Derived.Test.YtnddcnnangjgeaaChecked
import GoSem.Claim
import GoSem.ClaimJoined
import GoSem.ClaimMapViews
import Derived.JoinedTies
import Derived.KernelRfl
namespace Go.Proofs.Ytnddcnnangjgeaa
/- THE CELL 'sum', in the pinned program and in every row, IS THE sha256 OF THE DUMP (.gsa) THAT YtnddcnnangjgeaaProg.lean LOADS. Nothing in Lean hashes anything: it is a label: what it is worth is what the hold of that sum in a sandbox is worth. -/
noncomputable def Try.pinned : Pinned := { name := "ytnddcnnangjgeaa", sum := "ea064ec5a1db178cae2991184d662e6e17ecd2f2b2e065aaab6d2548b534b1c7", checked := Try.checked }
namespace Rows
def none {H : Type} : Left H := { results := [], args := [] }

/-- 'polderlaw04.LinksKnown': WHATEVER THE INPUT: true; the input reads as it did. -/
def linksKnownSpec : ChangeSpec := { name := "linksKnown", fn := fun _ => fun
  | [] => { results := [.lit (.bool true)], args := [] }
  | _ => none }
def linksKnownRow : OpenClaim := { program := "ytnddcnnangjgeaa", sum := "ea064ec5a1db178cae2991184d662e6e17ecd2f2b2e065aaab6d2548b534b1c7", func := "polder/polderlaw04.LinksKnown", spec := "linksKnown", unfollowed := true, recurses := true, apart := false }
def LinksKnownSaid : Prop := linksKnownRow.holds Try.pinned (OpenSpec.ofChange linksKnownSpec)

/-- ITS FALSE NEIGHBOUR: 'it returns false'. Refute it at one input. -/
def linksKnownWrong : ChangeSpec := { name := "linksKnown", fn := fun _ => fun
  | [] => { results := [.lit (.bool false)], args := [] }
  | _ => none }
def LinksKnownWrongFalsely : Prop := linksKnownRow.holds Try.pinned (OpenSpec.ofChange linksKnownWrong)

/-- 'polderlaw04.LinksLoads': WHATEVER THE INPUT: true; the input reads as it did. -/
def linksLoadsSpec : ChangeSpec := { name := "linksLoads", fn := fun _ => fun
  | [d] => { results := [.lit (.bool true)], args := [d] }
  | _ => none }
def linksLoadsRow : OpenClaim := { program := "ytnddcnnangjgeaa", sum := "ea064ec5a1db178cae2991184d662e6e17ecd2f2b2e065aaab6d2548b534b1c7", func := "polder/polderlaw04.LinksLoads", spec := "linksLoads", apart := false }
def LinksLoadsSaid : Prop := linksLoadsRow.holds Try.pinned (OpenSpec.ofChange linksLoadsSpec)

/-- ITS FALSE NEIGHBOUR: 'it returns false'. Refute it at one input. -/
def linksLoadsWrong : ChangeSpec := { name := "linksLoads", fn := fun _ => fun
  | [d] => { results := [.lit (.bool false)], args := [d] }
  | _ => none }
def LinksLoadsWrongFalsely : Prop := linksLoadsRow.holds Try.pinned (OpenSpec.ofChange linksLoadsWrong)

/-- 'polderlaw04.LinksTypes': WHATEVER THE INPUT: true; the input reads as it did. -/
def linksTypesSpec : ChangeSpec := { name := "linksTypes", fn := fun _ => fun
  | [d1, d2] => { results := [.lit (.bool true)], args := [d1, d2] }
  | _ => none }
def linksTypesRow : OpenClaim := { program := "ytnddcnnangjgeaa", sum := "ea064ec5a1db178cae2991184d662e6e17ecd2f2b2e065aaab6d2548b534b1c7", func := "polder/polderlaw04.LinksTypes", spec := "linksTypes", apart := false }
def LinksTypesSaid : Prop := linksTypesRow.holds Try.pinned (OpenSpec.ofChange linksTypesSpec)

/-- ITS FALSE NEIGHBOUR: 'it returns false'. Refute it at one input. -/
def linksTypesWrong : ChangeSpec := { name := "linksTypes", fn := fun _ => fun
  | [d1, d2] => { results := [.lit (.bool false)], args := [d1, d2] }
  | _ => none }
def LinksTypesWrongFalsely : Prop := linksTypesRow.holds Try.pinned (OpenSpec.ofChange linksTypesWrong)

/-- 'polderlaw04.LinksUndo': WHATEVER THE INPUT: true; the input reads as it did. -/
def linksUndoSpec : ChangeSpec := { name := "linksUndo", fn := fun _ => fun
  | [d1, d2, d3] => { results := [.lit (.bool true)], args := [d1, d2, d3] }
  | _ => none }
def linksUndoRow : OpenClaim := { program := "ytnddcnnangjgeaa", sum := "ea064ec5a1db178cae2991184d662e6e17ecd2f2b2e065aaab6d2548b534b1c7", func := "polder/polderlaw04.LinksUndo", spec := "linksUndo", apart := false }
def LinksUndoSaid : Prop := linksUndoRow.holds Try.pinned (OpenSpec.ofChange linksUndoSpec)

/-- ITS FALSE NEIGHBOUR: 'it returns false'. Refute it at one input. -/
def linksUndoWrong : ChangeSpec := { name := "linksUndo", fn := fun _ => fun
  | [d1, d2, d3] => { results := [.lit (.bool false)], args := [d1, d2, d3] }
  | _ => none }
def LinksUndoWrongFalsely : Prop := linksUndoRow.holds Try.pinned (OpenSpec.ofChange linksUndoWrong)

/-- 'polderlaw04.LinksPlays': WHATEVER THE INPUT: true; the input reads as it did. -/
def linksPlaysSpec : ChangeSpec := { name := "linksPlays", fn := fun _ => fun
  | [d1, d2, d3] => { results := [.lit (.bool true)], args := [d1, d2, d3] }
  | _ => none }
def linksPlaysRow : OpenClaim := { program := "ytnddcnnangjgeaa", sum := "ea064ec5a1db178cae2991184d662e6e17ecd2f2b2e065aaab6d2548b534b1c7", func := "polder/polderlaw04.LinksPlays", spec := "linksPlays", unfollowed := true, recurses := true, apart := false }
def LinksPlaysSaid : Prop := linksPlaysRow.holds Try.pinned (OpenSpec.ofChange linksPlaysSpec)

/-- ITS FALSE NEIGHBOUR: 'it returns false'. Refute it at one input. -/
def linksPlaysWrong : ChangeSpec := { name := "linksPlays", fn := fun _ => fun
  | [d1, d2, d3] => { results := [.lit (.bool false)], args := [d1, d2, d3] }
  | _ => none }
def LinksPlaysWrongFalsely : Prop := linksPlaysRow.holds Try.pinned (OpenSpec.ofChange linksPlaysWrong)

/-- 'polderlaw04.LinksWalks': WHATEVER THE INPUT: true; the input reads as it did. -/
def linksWalksSpec : ChangeSpec := { name := "linksWalks", fn := fun _ => fun
  | [d1, d2, d3] => { results := [.lit (.bool true)], args := [d1, d2, d3] }
  | _ => none }
def linksWalksRow : OpenClaim := { program := "ytnddcnnangjgeaa", sum := "ea064ec5a1db178cae2991184d662e6e17ecd2f2b2e065aaab6d2548b534b1c7", func := "polder/polderlaw04.LinksWalks", spec := "linksWalks", unfollowed := true, recurses := true, apart := false }
def LinksWalksSaid : Prop := linksWalksRow.holds Try.pinned (OpenSpec.ofChange linksWalksSpec)

/-- ITS FALSE NEIGHBOUR: 'it returns false'. Refute it at one input. -/
def linksWalksWrong : ChangeSpec := { name := "linksWalks", fn := fun _ => fun
  | [d1, d2, d3] => { results := [.lit (.bool false)], args := [d1, d2, d3] }
  | _ => none }
def LinksWalksWrongFalsely : Prop := linksWalksRow.holds Try.pinned (OpenSpec.ofChange linksWalksWrong)

/-- 'polderlaw04.LinksBroken': WHATEVER THE INPUT: true; the input reads as it did. -/
def linksBrokenSpec : ChangeSpec := { name := "linksBroken", fn := fun _ => fun
  | [d1, d2, d3] => { results := [.lit (.bool true)], args := [d1, d2, d3] }
  | _ => none }
def linksBrokenRow : OpenClaim := { program := "ytnddcnnangjgeaa", sum := "ea064ec5a1db178cae2991184d662e6e17ecd2f2b2e065aaab6d2548b534b1c7", func := "polder/polderlaw04.LinksBroken", spec := "linksBroken", apart := false }
def LinksBrokenSaid : Prop := linksBrokenRow.holds Try.pinned (OpenSpec.ofChange linksBrokenSpec)

/-- ITS FALSE NEIGHBOUR: 'it returns false'. Refute it at one input. -/
def linksBrokenWrong : ChangeSpec := { name := "linksBroken", fn := fun _ => fun
  | [d1, d2, d3] => { results := [.lit (.bool false)], args := [d1, d2, d3] }
  | _ => none }
def LinksBrokenWrongFalsely : Prop := linksBrokenRow.holds Try.pinned (OpenSpec.ofChange linksBrokenWrong)

/- THE SECOND FORM. 'bulk': how many values and letters a reading holds, each counted each time it is reached (what is shared counts as often as it is met; a slice's spare places count too). A statement '..UptoSaid' is the law's where the arguments, and the package variables that the reading takes, are together of bulk at most 1048576: NARROWER than '..Said'. Prove '..Said' where nothing that the law and all that it calls make is longer than what came in: it says more and counts as full. Else prove '..UptoSaid'. A law counts once. -/
mutual
def uptoBulk {H : Type} : DataW H → Nat
  | .lit (.string bytes) => bytes.length + 1
  | .lit _ => 1
  | .nil => 1
  | .ptr d => uptoBulk d + 1
  | .slice elems spare => uptoBulkAll elems + uptoBulkAll spare + 1
  | .agg parts => uptoBulkAll parts + 1
  | .iface _ d => uptoBulk d + 1
  | .map entries => uptoBulkEntries entries + 1
  | .held _ => 1
def uptoBulkAll {H : Type} : List (DataW H) → Nat
  | [] => 0
  | d :: r => uptoBulk d + uptoBulkAll r
def uptoBulkEntries {H : Type} : List (Lit × DataW H) → Nat
  | [] => 0
  | x :: r => uptoBulkEntry x + uptoBulkEntries r
def uptoBulkEntry {H : Type} : Lit × DataW H → Nat
  | (.string bytes, d) => bytes.length + uptoBulk d + 1
  | (_, d) => uptoBulk d + 1
 end
def uptoSmall : (H : Type) → List (DataW H) → Bool := fun _ ds => decide (uptoBulkAll ds ≤ 1048576)
def OpenSpec.upto (s : _root_.Go.ChangeSpec) : _root_.Go.OpenSpec := { _root_.Go.OpenSpec.ofChange s with cond := some uptoSmall }

/-- 'polderlaw04.LinksKnown', WHERE WHAT IT READS IS OF BULK AT MOST 1048576: true; the input reads as it did. -/
def linksKnownUptoRow : OpenClaim := { program := "ytnddcnnangjgeaa", sum := "ea064ec5a1db178cae2991184d662e6e17ecd2f2b2e065aaab6d2548b534b1c7", func := "polder/polderlaw04.LinksKnown", spec := "linksKnown", unfollowed := true, recurses := true, apart := false, narrowed := true }
def LinksKnownUptoSaid : Prop := linksKnownUptoRow.holds Try.pinned (OpenSpec.upto linksKnownSpec)

/-- 'polderlaw04.LinksLoads', WHERE WHAT IT READS IS OF BULK AT MOST 1048576: true; the input reads as it did. -/
def linksLoadsUptoRow : OpenClaim := { program := "ytnddcnnangjgeaa", sum := "ea064ec5a1db178cae2991184d662e6e17ecd2f2b2e065aaab6d2548b534b1c7", func := "polder/polderlaw04.LinksLoads", spec := "linksLoads", apart := false, narrowed := true }
def LinksLoadsUptoSaid : Prop := linksLoadsUptoRow.holds Try.pinned (OpenSpec.upto linksLoadsSpec)

/-- 'polderlaw04.LinksTypes', WHERE WHAT IT READS IS OF BULK AT MOST 1048576: true; the input reads as it did. -/
def linksTypesUptoRow : OpenClaim := { program := "ytnddcnnangjgeaa", sum := "ea064ec5a1db178cae2991184d662e6e17ecd2f2b2e065aaab6d2548b534b1c7", func := "polder/polderlaw04.LinksTypes", spec := "linksTypes", apart := false, narrowed := true }
def LinksTypesUptoSaid : Prop := linksTypesUptoRow.holds Try.pinned (OpenSpec.upto linksTypesSpec)

/-- 'polderlaw04.LinksUndo', WHERE WHAT IT READS IS OF BULK AT MOST 1048576: true; the input reads as it did. -/
def linksUndoUptoRow : OpenClaim := { program := "ytnddcnnangjgeaa", sum := "ea064ec5a1db178cae2991184d662e6e17ecd2f2b2e065aaab6d2548b534b1c7", func := "polder/polderlaw04.LinksUndo", spec := "linksUndo", apart := false, narrowed := true }
def LinksUndoUptoSaid : Prop := linksUndoUptoRow.holds Try.pinned (OpenSpec.upto linksUndoSpec)

/-- 'polderlaw04.LinksPlays', WHERE WHAT IT READS IS OF BULK AT MOST 1048576: true; the input reads as it did. -/
def linksPlaysUptoRow : OpenClaim := { program := "ytnddcnnangjgeaa", sum := "ea064ec5a1db178cae2991184d662e6e17ecd2f2b2e065aaab6d2548b534b1c7", func := "polder/polderlaw04.LinksPlays", spec := "linksPlays", unfollowed := true, recurses := true, apart := false, narrowed := true }
def LinksPlaysUptoSaid : Prop := linksPlaysUptoRow.holds Try.pinned (OpenSpec.upto linksPlaysSpec)

/-- 'polderlaw04.LinksWalks', WHERE WHAT IT READS IS OF BULK AT MOST 1048576: true; the input reads as it did. -/
def linksWalksUptoRow : OpenClaim := { program := "ytnddcnnangjgeaa", sum := "ea064ec5a1db178cae2991184d662e6e17ecd2f2b2e065aaab6d2548b534b1c7", func := "polder/polderlaw04.LinksWalks", spec := "linksWalks", unfollowed := true, recurses := true, apart := false, narrowed := true }
def LinksWalksUptoSaid : Prop := linksWalksUptoRow.holds Try.pinned (OpenSpec.upto linksWalksSpec)

/-- 'polderlaw04.LinksBroken', WHERE WHAT IT READS IS OF BULK AT MOST 1048576: true; the input reads as it did. -/
def linksBrokenUptoRow : OpenClaim := { program := "ytnddcnnangjgeaa", sum := "ea064ec5a1db178cae2991184d662e6e17ecd2f2b2e065aaab6d2548b534b1c7", func := "polder/polderlaw04.LinksBroken", spec := "linksBroken", apart := false, narrowed := true }
def LinksBrokenUptoSaid : Prop := linksBrokenUptoRow.holds Try.pinned (OpenSpec.upto linksBrokenSpec)

end Rows
end Go.Proofs.Ytnddcnnangjgeaa
