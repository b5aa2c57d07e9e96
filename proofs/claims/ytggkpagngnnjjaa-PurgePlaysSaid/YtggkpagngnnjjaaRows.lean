/-
  No cell of these rows narrows 'for every input' (looked for: loops, veiled, ifaces, maps, wideKeys, modest, calm, conditions, laid).
  DERIVED. THE GIVEN ROWS OF THIS SEAT. 7 by the template 'for every input the law returns true; each argument reads behind the call as it read before'; 0 by the template 'total and deterministic' (their statements: YtggkpagngnnjjaaTotals.lean).
  GIVEN WITH THE SEED: the statements are not yours to turn. If you find one false, say at which input.
  Laid BY PROGRAM, IN A SANDBOX (cutbox-rows.mjs): the forced cells as the released guide's own fill.sh prints them over the translation 2241f22818d4f742… (all of the seat's roots in one cut). By AI agents, Wed Nov 11 2026. No macro, syntax, notation, axiom, sorry.
-/
import Derived.Test.YtggkpagngnnjjaaChecked
import GoSem.Claim
import GoSem.ClaimJoined
import GoSem.ClaimMapViews
import Derived.JoinedTies
import Derived.KernelRfl
namespace Go.Proofs.Ytggkpagngnnjjaa
/- THE CELL 'sum', in the pinned program and in every row, IS THE sha256 OF THE DUMP (.gsa) THAT YtggkpagngnnjjaaProg.lean LOADS. Nothing in Lean hashes anything: it is a label: what it is worth is what the hold of that sum in a sandbox is worth. -/
noncomputable def Try.pinned : Pinned := { name := "ytggkpagngnnjjaa", sum := "2241f22818d4f742b469528d6850551d9b1cccfa099145f7a84e90a039cb3a38", checked := Try.checked }
namespace Rows
def none {H : Type} : Left H := { results := [], args := [] }

/-- 'polderlaw14.PurgeWalks': WHATEVER THE INPUT: true; the input reads as it did. -/
def purgeWalksSpec : ChangeSpec := { name := "purgeWalks", fn := fun _ => fun
  | [d1, d2] => { results := [.lit (.bool true)], args := [d1, d2] }
  | _ => none }
def purgeWalksRow : OpenClaim := { program := "ytggkpagngnnjjaa", sum := "2241f22818d4f742b469528d6850551d9b1cccfa099145f7a84e90a039cb3a38", func := "polder/polderlaw14.PurgeWalks", spec := "purgeWalks", unfollowed := true, recurses := true, apart := false }
def PurgeWalksSaid : Prop := purgeWalksRow.holds Try.pinned (OpenSpec.ofChange purgeWalksSpec)

/-- ITS FALSE NEIGHBOUR: 'it returns false'. Refute it at one input. -/
def purgeWalksWrong : ChangeSpec := { name := "purgeWalks", fn := fun _ => fun
  | [d1, d2] => { results := [.lit (.bool false)], args := [d1, d2] }
  | _ => none }
def PurgeWalksWrongFalsely : Prop := purgeWalksRow.holds Try.pinned (OpenSpec.ofChange purgeWalksWrong)

/-- 'polderlaw14.PurgeLoads': WHATEVER THE INPUT: true; the input reads as it did. -/
def purgeLoadsSpec : ChangeSpec := { name := "purgeLoads", fn := fun _ => fun
  | [d] => { results := [.lit (.bool true)], args := [d] }
  | _ => none }
def purgeLoadsRow : OpenClaim := { program := "ytggkpagngnnjjaa", sum := "2241f22818d4f742b469528d6850551d9b1cccfa099145f7a84e90a039cb3a38", func := "polder/polderlaw14.PurgeLoads", spec := "purgeLoads", unfollowed := true, recurses := true, apart := false }
def PurgeLoadsSaid : Prop := purgeLoadsRow.holds Try.pinned (OpenSpec.ofChange purgeLoadsSpec)

/-- ITS FALSE NEIGHBOUR: 'it returns false'. Refute it at one input. -/
def purgeLoadsWrong : ChangeSpec := { name := "purgeLoads", fn := fun _ => fun
  | [d] => { results := [.lit (.bool false)], args := [d] }
  | _ => none }
def PurgeLoadsWrongFalsely : Prop := purgeLoadsRow.holds Try.pinned (OpenSpec.ofChange purgeLoadsWrong)

/-- 'polderlaw14.PurgeTicks': WHATEVER THE INPUT: true; the input reads as it did. -/
def purgeTicksSpec : ChangeSpec := { name := "purgeTicks", fn := fun _ => fun
  | [d1, d2] => { results := [.lit (.bool true)], args := [d1, d2] }
  | _ => none }
def purgeTicksRow : OpenClaim := { program := "ytggkpagngnnjjaa", sum := "2241f22818d4f742b469528d6850551d9b1cccfa099145f7a84e90a039cb3a38", func := "polder/polderlaw14.PurgeTicks", spec := "purgeTicks", unfollowed := true, recurses := true, apart := false }
def PurgeTicksSaid : Prop := purgeTicksRow.holds Try.pinned (OpenSpec.ofChange purgeTicksSpec)

/-- ITS FALSE NEIGHBOUR: 'it returns false'. Refute it at one input. -/
def purgeTicksWrong : ChangeSpec := { name := "purgeTicks", fn := fun _ => fun
  | [d1, d2] => { results := [.lit (.bool false)], args := [d1, d2] }
  | _ => none }
def PurgeTicksWrongFalsely : Prop := purgeTicksRow.holds Try.pinned (OpenSpec.ofChange purgeTicksWrong)

/-- 'polderlaw14.PurgeRefused': WHATEVER THE INPUT: true; the input reads as it did. -/
def purgeRefusedSpec : ChangeSpec := { name := "purgeRefused", fn := fun _ => fun
  | [d1, d2, d3] => { results := [.lit (.bool true)], args := [d1, d2, d3] }
  | _ => none }
def purgeRefusedRow : OpenClaim := { program := "ytggkpagngnnjjaa", sum := "2241f22818d4f742b469528d6850551d9b1cccfa099145f7a84e90a039cb3a38", func := "polder/polderlaw14.PurgeRefused", spec := "purgeRefused", unfollowed := true, recurses := true, apart := false }
def PurgeRefusedSaid : Prop := purgeRefusedRow.holds Try.pinned (OpenSpec.ofChange purgeRefusedSpec)

/-- ITS FALSE NEIGHBOUR: 'it returns false'. Refute it at one input. -/
def purgeRefusedWrong : ChangeSpec := { name := "purgeRefused", fn := fun _ => fun
  | [d1, d2, d3] => { results := [.lit (.bool false)], args := [d1, d2, d3] }
  | _ => none }
def PurgeRefusedWrongFalsely : Prop := purgeRefusedRow.holds Try.pinned (OpenSpec.ofChange purgeRefusedWrong)

/-- 'polderlaw14.PurgeOrder': WHATEVER THE INPUT: true; the input reads as it did. -/
def purgeOrderSpec : ChangeSpec := { name := "purgeOrder", fn := fun _ => fun
  | [d1, d2, d3] => { results := [.lit (.bool true)], args := [d1, d2, d3] }
  | _ => none }
def purgeOrderRow : OpenClaim := { program := "ytggkpagngnnjjaa", sum := "2241f22818d4f742b469528d6850551d9b1cccfa099145f7a84e90a039cb3a38", func := "polder/polderlaw14.PurgeOrder", spec := "purgeOrder", unfollowed := true, recurses := true, apart := false }
def PurgeOrderSaid : Prop := purgeOrderRow.holds Try.pinned (OpenSpec.ofChange purgeOrderSpec)

/-- ITS FALSE NEIGHBOUR: 'it returns false'. Refute it at one input. -/
def purgeOrderWrong : ChangeSpec := { name := "purgeOrder", fn := fun _ => fun
  | [d1, d2, d3] => { results := [.lit (.bool false)], args := [d1, d2, d3] }
  | _ => none }
def PurgeOrderWrongFalsely : Prop := purgeOrderRow.holds Try.pinned (OpenSpec.ofChange purgeOrderWrong)

/-- 'polderlaw14.PurgeKnown': WHATEVER THE INPUT: true; the input reads as it did. -/
def purgeKnownSpec : ChangeSpec := { name := "purgeKnown", fn := fun _ => fun
  | [] => { results := [.lit (.bool true)], args := [] }
  | _ => none }
def purgeKnownRow : OpenClaim := { program := "ytggkpagngnnjjaa", sum := "2241f22818d4f742b469528d6850551d9b1cccfa099145f7a84e90a039cb3a38", func := "polder/polderlaw14.PurgeKnown", spec := "purgeKnown", unfollowed := true, recurses := true, apart := false }
def PurgeKnownSaid : Prop := purgeKnownRow.holds Try.pinned (OpenSpec.ofChange purgeKnownSpec)

/-- ITS FALSE NEIGHBOUR: 'it returns false'. Refute it at one input. -/
def purgeKnownWrong : ChangeSpec := { name := "purgeKnown", fn := fun _ => fun
  | [] => { results := [.lit (.bool false)], args := [] }
  | _ => none }
def PurgeKnownWrongFalsely : Prop := purgeKnownRow.holds Try.pinned (OpenSpec.ofChange purgeKnownWrong)

/-- 'polderlaw14.PurgePlays': WHATEVER THE INPUT: true; the input reads as it did. -/
def purgePlaysSpec : ChangeSpec := { name := "purgePlays", fn := fun _ => fun
  | [d1, d2, d3] => { results := [.lit (.bool true)], args := [d1, d2, d3] }
  | _ => none }
def purgePlaysRow : OpenClaim := { program := "ytggkpagngnnjjaa", sum := "2241f22818d4f742b469528d6850551d9b1cccfa099145f7a84e90a039cb3a38", func := "polder/polderlaw14.PurgePlays", spec := "purgePlays", unfollowed := true, recurses := true, apart := false }
def PurgePlaysSaid : Prop := purgePlaysRow.holds Try.pinned (OpenSpec.ofChange purgePlaysSpec)

/-- ITS FALSE NEIGHBOUR: 'it returns false'. Refute it at one input. -/
def purgePlaysWrong : ChangeSpec := { name := "purgePlays", fn := fun _ => fun
  | [d1, d2, d3] => { results := [.lit (.bool false)], args := [d1, d2, d3] }
  | _ => none }
def PurgePlaysWrongFalsely : Prop := purgePlaysRow.holds Try.pinned (OpenSpec.ofChange purgePlaysWrong)

/- THE SECOND FORM. 'bulk': how many values and letters a reading holds, each counted each time it is reached (what is shared counts as often as it is met; a slice's spare places count too). A statement '..UptoSaid' is the law's where the arguments, and the package variables that the reading takes, are together of bulk at most 1048576: NARROWER than '..Said'. Prove '..Said' where nothing that the law and all that it calls make is longer than what came in: it says more and counts as full. Else prove '..UptoSaid'. A law counts once. -/
mutual
def uptoBulk {H : Type} : DataW H → Nat
  | .lit (.string bytes) => bytes.length + 1
  | .lit _ => 1
  | .nil => 1
  | .ptr d => uptoBulk d + 1
  | .slice elems spare => uptoBulkAll elems + uptoBulkAll spare + 1
  | .agg parts => uptoBulkAll parts + 1
  | .iface _ d => uptoBulk d + 1
  | .map entries => uptoBulkEntries entries + 1
  | .held _ => 1
def uptoBulkAll {H : Type} : List (DataW H) → Nat
  | [] => 0
  | d :: r => uptoBulk d + uptoBulkAll r
def uptoBulkEntries {H : Type} : List (Lit × DataW H) → Nat
  | [] => 0
  | x :: r => uptoBulkEntry x + uptoBulkEntries r
def uptoBulkEntry {H : Type} : Lit × DataW H → Nat
  | (.string bytes, d) => bytes.length + uptoBulk d + 1
  | (_, d) => uptoBulk d + 1
 end
def uptoSmall : (H : Type) → List (DataW H) → Bool := fun _ ds => decide (uptoBulkAll ds ≤ 1048576)
def OpenSpec.upto (s : _root_.Go.ChangeSpec) : _root_.Go.OpenSpec := { _root_.Go.OpenSpec.ofChange s with cond := some uptoSmall }

/-- 'polderlaw14.PurgeWalks', WHERE WHAT IT READS IS OF BULK AT MOST 1048576: true; the input reads as it did. -/
def purgeWalksUptoRow : OpenClaim := { program := "ytggkpagngnnjjaa", sum := "2241f22818d4f742b469528d6850551d9b1cccfa099145f7a84e90a039cb3a38", func := "polder/polderlaw14.PurgeWalks", spec := "purgeWalks", unfollowed := true, recurses := true, apart := false, narrowed := true }
def PurgeWalksUptoSaid : Prop := purgeWalksUptoRow.holds Try.pinned (OpenSpec.upto purgeWalksSpec)

/-- 'polderlaw14.PurgeLoads', WHERE WHAT IT READS IS OF BULK AT MOST 1048576: true; the input reads as it did. -/
def purgeLoadsUptoRow : OpenClaim := { program := "ytggkpagngnnjjaa", sum := "2241f22818d4f742b469528d6850551d9b1cccfa099145f7a84e90a039cb3a38", func := "polder/polderlaw14.PurgeLoads", spec := "purgeLoads", unfollowed := true, recurses := true, apart := false, narrowed := true }
def PurgeLoadsUptoSaid : Prop := purgeLoadsUptoRow.holds Try.pinned (OpenSpec.upto purgeLoadsSpec)

/-- 'polderlaw14.PurgeTicks', WHERE WHAT IT READS IS OF BULK AT MOST 1048576: true; the input reads as it did. -/
def purgeTicksUptoRow : OpenClaim := { program := "ytggkpagngnnjjaa", sum := "2241f22818d4f742b469528d6850551d9b1cccfa099145f7a84e90a039cb3a38", func := "polder/polderlaw14.PurgeTicks", spec := "purgeTicks", unfollowed := true, recurses := true, apart := false, narrowed := true }
def PurgeTicksUptoSaid : Prop := purgeTicksUptoRow.holds Try.pinned (OpenSpec.upto purgeTicksSpec)

/-- 'polderlaw14.PurgeRefused', WHERE WHAT IT READS IS OF BULK AT MOST 1048576: true; the input reads as it did. -/
def purgeRefusedUptoRow : OpenClaim := { program := "ytggkpagngnnjjaa", sum := "2241f22818d4f742b469528d6850551d9b1cccfa099145f7a84e90a039cb3a38", func := "polder/polderlaw14.PurgeRefused", spec := "purgeRefused", unfollowed := true, recurses := true, apart := false, narrowed := true }
def PurgeRefusedUptoSaid : Prop := purgeRefusedUptoRow.holds Try.pinned (OpenSpec.upto purgeRefusedSpec)

/-- 'polderlaw14.PurgeOrder', WHERE WHAT IT READS IS OF BULK AT MOST 1048576: true; the input reads as it did. -/
def purgeOrderUptoRow : OpenClaim := { program := "ytggkpagngnnjjaa", sum := "2241f22818d4f742b469528d6850551d9b1cccfa099145f7a84e90a039cb3a38", func := "polder/polderlaw14.PurgeOrder", spec := "purgeOrder", unfollowed := true, recurses := true, apart := false, narrowed := true }
def PurgeOrderUptoSaid : Prop := purgeOrderUptoRow.holds Try.pinned (OpenSpec.upto purgeOrderSpec)

/-- 'polderlaw14.PurgeKnown', WHERE WHAT IT READS IS OF BULK AT MOST 1048576: true; the input reads as it did. -/
def purgeKnownUptoRow : OpenClaim := { program := "ytggkpagngnnjjaa", sum := "2241f22818d4f742b469528d6850551d9b1cccfa099145f7a84e90a039cb3a38", func := "polder/polderlaw14.PurgeKnown", spec := "purgeKnown", unfollowed := true, recurses := true, apart := false, narrowed := true }
def PurgeKnownUptoSaid : Prop := purgeKnownUptoRow.holds Try.pinned (OpenSpec.upto purgeKnownSpec)

/-- 'polderlaw14.PurgePlays', WHERE WHAT IT READS IS OF BULK AT MOST 1048576: true; the input reads as it did. -/
def purgePlaysUptoRow : OpenClaim := { program := "ytggkpagngnnjjaa", sum := "2241f22818d4f742b469528d6850551d9b1cccfa099145f7a84e90a039cb3a38", func := "polder/polderlaw14.PurgePlays", spec := "purgePlays", unfollowed := true, recurses := true, apart := false, narrowed := true }
def PurgePlaysUptoSaid : Prop := purgePlaysUptoRow.holds Try.pinned (OpenSpec.upto purgePlaysSpec)

end Rows
end Go.Proofs.Ytggkpagngnnjjaa
