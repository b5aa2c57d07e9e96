/-
  No cell of these rows narrows 'for every input' (looked for: loops, veiled, ifaces, maps, wideKeys, modest, calm, conditions, laid).
  DERIVED. THE GIVEN ROWS OF THIS SEAT. 6 by the template 'for every input the law returns true; each argument reads behind the call as it read before'; 0 by the template 'total and deterministic' (their statements: YtbhgfoikbkaohaaTotals.lean).
  GIVEN WITH THE SEED: the statements are not yours to turn. If you find one false, say at which input.
  Laid BY PROGRAM, IN A SANDBOX (cutbox-rows.mjs): the forced cells as the released guide's own fill.sh prints them over the translation b9f61bd03b858b74… (all of the seat's roots in one cut). By AI agents, Wed Nov 11 2026. No macro, syntax, notation, axiom, sorry.
-/
import Derived.Test.YtbhgfoikbkaohaaChecked
import GoSem.Claim
import GoSem.ClaimJoined
import GoSem.ClaimMapViews
import Derived.JoinedTies
import Derived.KernelRfl
namespace Go.Proofs.Ytbhgfoikbkaohaa
/- THE CELL 'sum', in the pinned program and in every row, IS THE sha256 OF THE DUMP (.gsa) THAT YtbhgfoikbkaohaaProg.lean LOADS. Nothing in Lean hashes anything: it is a label: what it is worth is what the hold of that sum in a sandbox is worth. -/
noncomputable def Try.pinned : Pinned := { name := "ytbhgfoikbkaohaa", sum := "b9f61bd03b858b74bc529f75686d25c1dd12af8b84ac952885774da0097a9ba0", checked := Try.checked }
namespace Rows
def none {H : Type} : Left H := { results := [], args := [] }

/-- 'polderlaw25.SwapBytes': WHATEVER THE INPUT: true; the input reads as it did. -/
def swapBytesSpec : ChangeSpec := { name := "swapBytes", fn := fun _ => fun
  | [d] => { results := [.lit (.bool true)], args := [d] }
  | _ => none }
def swapBytesRow : OpenClaim := { program := "ytbhgfoikbkaohaa", sum := "b9f61bd03b858b74bc529f75686d25c1dd12af8b84ac952885774da0097a9ba0", func := "polder/polderlaw25.SwapBytes", spec := "swapBytes", unfollowed := true, recurses := true, apart := false }
def SwapBytesSaid : Prop := swapBytesRow.holds Try.pinned (OpenSpec.ofChange swapBytesSpec)

/-- ITS FALSE NEIGHBOUR: 'it returns false'. Refute it at one input. -/
def swapBytesWrong : ChangeSpec := { name := "swapBytes", fn := fun _ => fun
  | [d] => { results := [.lit (.bool false)], args := [d] }
  | _ => none }
def SwapBytesWrongFalsely : Prop := swapBytesRow.holds Try.pinned (OpenSpec.ofChange swapBytesWrong)

/-- 'polderlaw25.SwapFewer': WHATEVER THE INPUT: true; the input reads as it did. -/
def swapFewerSpec : ChangeSpec := { name := "swapFewer", fn := fun _ => fun
  | [d1, d2] => { results := [.lit (.bool true)], args := [d1, d2] }
  | _ => none }
def swapFewerRow : OpenClaim := { program := "ytbhgfoikbkaohaa", sum := "b9f61bd03b858b74bc529f75686d25c1dd12af8b84ac952885774da0097a9ba0", func := "polder/polderlaw25.SwapFewer", spec := "swapFewer", unfollowed := true, recurses := true, apart := false }
def SwapFewerSaid : Prop := swapFewerRow.holds Try.pinned (OpenSpec.ofChange swapFewerSpec)

/-- ITS FALSE NEIGHBOUR: 'it returns false'. Refute it at one input. -/
def swapFewerWrong : ChangeSpec := { name := "swapFewer", fn := fun _ => fun
  | [d1, d2] => { results := [.lit (.bool false)], args := [d1, d2] }
  | _ => none }
def SwapFewerWrongFalsely : Prop := swapFewerRow.holds Try.pinned (OpenSpec.ofChange swapFewerWrong)

/-- 'polderlaw25.SwapVictims': WHATEVER THE INPUT: true; the input reads as it did. -/
def swapVictimsSpec : ChangeSpec := { name := "swapVictims", fn := fun _ => fun
  | [d] => { results := [.lit (.bool true)], args := [d] }
  | _ => none }
def swapVictimsRow : OpenClaim := { program := "ytbhgfoikbkaohaa", sum := "b9f61bd03b858b74bc529f75686d25c1dd12af8b84ac952885774da0097a9ba0", func := "polder/polderlaw25.SwapVictims", spec := "swapVictims", unfollowed := true, recurses := true, apart := false }
def SwapVictimsSaid : Prop := swapVictimsRow.holds Try.pinned (OpenSpec.ofChange swapVictimsSpec)

/-- ITS FALSE NEIGHBOUR: 'it returns false'. Refute it at one input. -/
def swapVictimsWrong : ChangeSpec := { name := "swapVictims", fn := fun _ => fun
  | [d] => { results := [.lit (.bool false)], args := [d] }
  | _ => none }
def SwapVictimsWrongFalsely : Prop := swapVictimsRow.holds Try.pinned (OpenSpec.ofChange swapVictimsWrong)

/-- 'polderlaw25.SwapKeeps': WHATEVER THE INPUT: true; the input reads as it did. -/
def swapKeepsSpec : ChangeSpec := { name := "swapKeeps", fn := fun _ => fun
  | [d1, d2] => { results := [.lit (.bool true)], args := [d1, d2] }
  | _ => none }
def swapKeepsRow : OpenClaim := { program := "ytbhgfoikbkaohaa", sum := "b9f61bd03b858b74bc529f75686d25c1dd12af8b84ac952885774da0097a9ba0", func := "polder/polderlaw25.SwapKeeps", spec := "swapKeeps", unfollowed := true, recurses := true, apart := false }
def SwapKeepsSaid : Prop := swapKeepsRow.holds Try.pinned (OpenSpec.ofChange swapKeepsSpec)

/-- ITS FALSE NEIGHBOUR: 'it returns false'. Refute it at one input. -/
def swapKeepsWrong : ChangeSpec := { name := "swapKeeps", fn := fun _ => fun
  | [d1, d2] => { results := [.lit (.bool false)], args := [d1, d2] }
  | _ => none }
def SwapKeepsWrongFalsely : Prop := swapKeepsRow.holds Try.pinned (OpenSpec.ofChange swapKeepsWrong)

/-- 'polderlaw25.SwapFits': WHATEVER THE INPUT: true; the input reads as it did. -/
def swapFitsSpec : ChangeSpec := { name := "swapFits", fn := fun _ => fun
  | [d] => { results := [.lit (.bool true)], args := [d] }
  | _ => none }
def swapFitsRow : OpenClaim := { program := "ytbhgfoikbkaohaa", sum := "b9f61bd03b858b74bc529f75686d25c1dd12af8b84ac952885774da0097a9ba0", func := "polder/polderlaw25.SwapFits", spec := "swapFits", unfollowed := true, recurses := true, apart := false }
def SwapFitsSaid : Prop := swapFitsRow.holds Try.pinned (OpenSpec.ofChange swapFitsSpec)

/-- ITS FALSE NEIGHBOUR: 'it returns false'. Refute it at one input. -/
def swapFitsWrong : ChangeSpec := { name := "swapFits", fn := fun _ => fun
  | [d] => { results := [.lit (.bool false)], args := [d] }
  | _ => none }
def SwapFitsWrongFalsely : Prop := swapFitsRow.holds Try.pinned (OpenSpec.ofChange swapFitsWrong)

/-- 'polderlaw25.SwapNone': WHATEVER THE INPUT: true; the input reads as it did. -/
def swapNoneSpec : ChangeSpec := { name := "swapNone", fn := fun _ => fun
  | [d] => { results := [.lit (.bool true)], args := [d] }
  | _ => none }
def swapNoneRow : OpenClaim := { program := "ytbhgfoikbkaohaa", sum := "b9f61bd03b858b74bc529f75686d25c1dd12af8b84ac952885774da0097a9ba0", func := "polder/polderlaw25.SwapNone", spec := "swapNone", unfollowed := true, recurses := true, apart := false }
def SwapNoneSaid : Prop := swapNoneRow.holds Try.pinned (OpenSpec.ofChange swapNoneSpec)

/-- ITS FALSE NEIGHBOUR: 'it returns false'. Refute it at one input. -/
def swapNoneWrong : ChangeSpec := { name := "swapNone", fn := fun _ => fun
  | [d] => { results := [.lit (.bool false)], args := [d] }
  | _ => none }
def SwapNoneWrongFalsely : Prop := swapNoneRow.holds Try.pinned (OpenSpec.ofChange swapNoneWrong)

/- THE SECOND FORM. 'bulk': how many values and letters a reading holds, each counted each time it is reached (what is shared counts as often as it is met; a slice's spare places count too). A statement '..UptoSaid' is the law's where the arguments, and the package variables that the reading takes, are together of bulk at most 1048576: NARROWER than '..Said'. Prove '..Said' where nothing that the law and all that it calls make is longer than what came in: it says more and counts as full. Else prove '..UptoSaid'. A law counts once. -/
mutual
def uptoBulk {H : Type} : DataW H → Nat
  | .lit (.string bytes) => bytes.length + 1
  | .lit _ => 1
  | .nil => 1
  | .ptr d => uptoBulk d + 1
  | .slice elems spare => uptoBulkAll elems + uptoBulkAll spare + 1
  | .agg parts => uptoBulkAll parts + 1
  | .iface _ d => uptoBulk d + 1
  | .map entries => uptoBulkEntries entries + 1
  | .held _ => 1
def uptoBulkAll {H : Type} : List (DataW H) → Nat
  | [] => 0
  | d :: r => uptoBulk d + uptoBulkAll r
def uptoBulkEntries {H : Type} : List (Lit × DataW H) → Nat
  | [] => 0
  | x :: r => uptoBulkEntry x + uptoBulkEntries r
def uptoBulkEntry {H : Type} : Lit × DataW H → Nat
  | (.string bytes, d) => bytes.length + uptoBulk d + 1
  | (_, d) => uptoBulk d + 1
 end
def uptoSmall : (H : Type) → List (DataW H) → Bool := fun _ ds => decide (uptoBulkAll ds ≤ 1048576)
def OpenSpec.upto (s : _root_.Go.ChangeSpec) : _root_.Go.OpenSpec := { _root_.Go.OpenSpec.ofChange s with cond := some uptoSmall }

/-- 'polderlaw25.SwapBytes', WHERE WHAT IT READS IS OF BULK AT MOST 1048576: true; the input reads as it did. -/
def swapBytesUptoRow : OpenClaim := { program := "ytbhgfoikbkaohaa", sum := "b9f61bd03b858b74bc529f75686d25c1dd12af8b84ac952885774da0097a9ba0", func := "polder/polderlaw25.SwapBytes", spec := "swapBytes", unfollowed := true, recurses := true, apart := false, narrowed := true }
def SwapBytesUptoSaid : Prop := swapBytesUptoRow.holds Try.pinned (OpenSpec.upto swapBytesSpec)

/-- 'polderlaw25.SwapFewer', WHERE WHAT IT READS IS OF BULK AT MOST 1048576: true; the input reads as it did. -/
def swapFewerUptoRow : OpenClaim := { program := "ytbhgfoikbkaohaa", sum := "b9f61bd03b858b74bc529f75686d25c1dd12af8b84ac952885774da0097a9ba0", func := "polder/polderlaw25.SwapFewer", spec := "swapFewer", unfollowed := true, recurses := true, apart := false, narrowed := true }
def SwapFewerUptoSaid : Prop := swapFewerUptoRow.holds Try.pinned (OpenSpec.upto swapFewerSpec)

/-- 'polderlaw25.SwapVictims', WHERE WHAT IT READS IS OF BULK AT MOST 1048576: true; the input reads as it did. -/
def swapVictimsUptoRow : OpenClaim := { program := "ytbhgfoikbkaohaa", sum := "b9f61bd03b858b74bc529f75686d25c1dd12af8b84ac952885774da0097a9ba0", func := "polder/polderlaw25.SwapVictims", spec := "swapVictims", unfollowed := true, recurses := true, apart := false, narrowed := true }
def SwapVictimsUptoSaid : Prop := swapVictimsUptoRow.holds Try.pinned (OpenSpec.upto swapVictimsSpec)

/-- 'polderlaw25.SwapKeeps', WHERE WHAT IT READS IS OF BULK AT MOST 1048576: true; the input reads as it did. -/
def swapKeepsUptoRow : OpenClaim := { program := "ytbhgfoikbkaohaa", sum := "b9f61bd03b858b74bc529f75686d25c1dd12af8b84ac952885774da0097a9ba0", func := "polder/polderlaw25.SwapKeeps", spec := "swapKeeps", unfollowed := true, recurses := true, apart := false, narrowed := true }
def SwapKeepsUptoSaid : Prop := swapKeepsUptoRow.holds Try.pinned (OpenSpec.upto swapKeepsSpec)

/-- 'polderlaw25.SwapFits', WHERE WHAT IT READS IS OF BULK AT MOST 1048576: true; the input reads as it did. -/
def swapFitsUptoRow : OpenClaim := { program := "ytbhgfoikbkaohaa", sum := "b9f61bd03b858b74bc529f75686d25c1dd12af8b84ac952885774da0097a9ba0", func := "polder/polderlaw25.SwapFits", spec := "swapFits", unfollowed := true, recurses := true, apart := false, narrowed := true }
def SwapFitsUptoSaid : Prop := swapFitsUptoRow.holds Try.pinned (OpenSpec.upto swapFitsSpec)

/-- 'polderlaw25.SwapNone', WHERE WHAT IT READS IS OF BULK AT MOST 1048576: true; the input reads as it did. -/
def swapNoneUptoRow : OpenClaim := { program := "ytbhgfoikbkaohaa", sum := "b9f61bd03b858b74bc529f75686d25c1dd12af8b84ac952885774da0097a9ba0", func := "polder/polderlaw25.SwapNone", spec := "swapNone", unfollowed := true, recurses := true, apart := false, narrowed := true }
def SwapNoneUptoSaid : Prop := swapNoneUptoRow.holds Try.pinned (OpenSpec.upto swapNoneSpec)

end Rows
end Go.Proofs.Ytbhgfoikbkaohaa
