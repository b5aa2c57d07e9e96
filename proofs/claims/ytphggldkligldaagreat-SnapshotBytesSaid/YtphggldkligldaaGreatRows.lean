/-
  No cell of these rows narrows 'for every input' (looked for: loops, veiled, ifaces, maps, wideKeys, modest, calm, conditions, laid).
  DERIVED. THE GIVEN ROWS OF THIS SEAT. 7 by the template 'for every input the law returns true; each argument reads behind the call as it read before'; 0 by the template 'total and deterministic' (their statements: YtphggldkligldaaGreatTotals.lean).
  GIVEN WITH THE SEED: the statements are not yours to turn. If you find one false, say at which input.
  Laid BY PROGRAM, IN A SANDBOX (cutbox-rows.mjs): the forced cells as the released guide's own fill.sh prints them over the translation 408891047afdbd16… (all of the seat's roots in one cut). By AI agents, Wed Nov 11 2026. No macro, syntax, notation, axiom, sorry.
-/
import Derived.Test.YtphggldkligldaaGreatChecked
import GoSem.Claim
import GoSem.ClaimJoined
import GoSem.ClaimMapViews
import Derived.JoinedTies
import Derived.KernelRfl
namespace Go.Proofs.YtphggldkligldaaGreat
/- THE CELL 'sum', in the pinned program and in every row, IS THE sha256 OF THE DUMP (.gsa) THAT YtphggldkligldaaGreatProg.lean LOADS. Nothing in Lean hashes anything: it is a label: what it is worth is what the hold of that sum in a sandbox is worth. -/
noncomputable def Tryz.pinned : Pinned := { name := "ytphggldkligldaagreat", sum := "408891047afdbd1649b8e41b0fc3668b0f5220857704d10d806a8ef6bac60951", checked := Tryz.checked }
namespace Rows
def none {H : Type} : Left H := { results := [], args := [] }

/-- 'polderlaw23.SnapshotBytes': WHATEVER THE INPUT: true; the input reads as it did. -/
def snapshotBytesSpec : ChangeSpec := { name := "snapshotBytes", fn := fun _ => fun
  | [d] => { results := [.lit (.bool true)], args := [d] }
  | _ => none }
def snapshotBytesRow : OpenClaim := { program := "ytphggldkligldaagreat", sum := "408891047afdbd1649b8e41b0fc3668b0f5220857704d10d806a8ef6bac60951", func := "polder/polderlaw23.SnapshotBytes", spec := "snapshotBytes", unfollowed := true, recurses := true, plainKeys := false, apart := false }
def SnapshotBytesSaid : Prop := snapshotBytesRow.holds Tryz.pinned (OpenSpec.ofChange snapshotBytesSpec)

/-- ITS FALSE NEIGHBOUR: 'it returns false'. Refute it at one input. -/
def snapshotBytesWrong : ChangeSpec := { name := "snapshotBytes", fn := fun _ => fun
  | [d] => { results := [.lit (.bool false)], args := [d] }
  | _ => none }
def SnapshotBytesWrongFalsely : Prop := snapshotBytesRow.holds Tryz.pinned (OpenSpec.ofChange snapshotBytesWrong)

/-- 'polderlaw23.SnapshotLoads': WHATEVER THE INPUT: true; the input reads as it did. -/
def snapshotLoadsSpec : ChangeSpec := { name := "snapshotLoads", fn := fun _ => fun
  | [d1, d2] => { results := [.lit (.bool true)], args := [d1, d2] }
  | _ => none }
def snapshotLoadsRow : OpenClaim := { program := "ytphggldkligldaagreat", sum := "408891047afdbd1649b8e41b0fc3668b0f5220857704d10d806a8ef6bac60951", func := "polder/polderlaw23.SnapshotLoads", spec := "snapshotLoads", unfollowed := true, recurses := true, plainKeys := false, apart := false }
def SnapshotLoadsSaid : Prop := snapshotLoadsRow.holds Tryz.pinned (OpenSpec.ofChange snapshotLoadsSpec)

/-- ITS FALSE NEIGHBOUR: 'it returns false'. Refute it at one input. -/
def snapshotLoadsWrong : ChangeSpec := { name := "snapshotLoads", fn := fun _ => fun
  | [d1, d2] => { results := [.lit (.bool false)], args := [d1, d2] }
  | _ => none }
def SnapshotLoadsWrongFalsely : Prop := snapshotLoadsRow.holds Tryz.pinned (OpenSpec.ofChange snapshotLoadsWrong)

/-- 'polderlaw23.SnapshotKeeps': WHATEVER THE INPUT: true; the input reads as it did. -/
def snapshotKeepsSpec : ChangeSpec := { name := "snapshotKeeps", fn := fun _ => fun
  | [d1, d2] => { results := [.lit (.bool true)], args := [d1, d2] }
  | _ => none }
def snapshotKeepsRow : OpenClaim := { program := "ytphggldkligldaagreat", sum := "408891047afdbd1649b8e41b0fc3668b0f5220857704d10d806a8ef6bac60951", func := "polder/polderlaw23.SnapshotKeeps", spec := "snapshotKeeps", unfollowed := true, recurses := true, plainKeys := false, apart := false }
def SnapshotKeepsSaid : Prop := snapshotKeepsRow.holds Tryz.pinned (OpenSpec.ofChange snapshotKeepsSpec)

/-- ITS FALSE NEIGHBOUR: 'it returns false'. Refute it at one input. -/
def snapshotKeepsWrong : ChangeSpec := { name := "snapshotKeeps", fn := fun _ => fun
  | [d1, d2] => { results := [.lit (.bool false)], args := [d1, d2] }
  | _ => none }
def SnapshotKeepsWrongFalsely : Prop := snapshotKeepsRow.holds Tryz.pinned (OpenSpec.ofChange snapshotKeepsWrong)

/-- 'polderlaw23.SnapshotNone': WHATEVER THE INPUT: true; the input reads as it did. -/
def snapshotNoneSpec : ChangeSpec := { name := "snapshotNone", fn := fun _ => fun
  | [d] => { results := [.lit (.bool true)], args := [d] }
  | _ => none }
def snapshotNoneRow : OpenClaim := { program := "ytphggldkligldaagreat", sum := "408891047afdbd1649b8e41b0fc3668b0f5220857704d10d806a8ef6bac60951", func := "polder/polderlaw23.SnapshotNone", spec := "snapshotNone", unfollowed := true, recurses := true, plainKeys := false, apart := false }
def SnapshotNoneSaid : Prop := snapshotNoneRow.holds Tryz.pinned (OpenSpec.ofChange snapshotNoneSpec)

/-- ITS FALSE NEIGHBOUR: 'it returns false'. Refute it at one input. -/
def snapshotNoneWrong : ChangeSpec := { name := "snapshotNone", fn := fun _ => fun
  | [d] => { results := [.lit (.bool false)], args := [d] }
  | _ => none }
def SnapshotNoneWrongFalsely : Prop := snapshotNoneRow.holds Tryz.pinned (OpenSpec.ofChange snapshotNoneWrong)

/-- 'polderlaw23.SnapshotFits': WHATEVER THE INPUT: true; the input reads as it did. -/
def snapshotFitsSpec : ChangeSpec := { name := "snapshotFits", fn := fun _ => fun
  | [d] => { results := [.lit (.bool true)], args := [d] }
  | _ => none }
def snapshotFitsRow : OpenClaim := { program := "ytphggldkligldaagreat", sum := "408891047afdbd1649b8e41b0fc3668b0f5220857704d10d806a8ef6bac60951", func := "polder/polderlaw23.SnapshotFits", spec := "snapshotFits", unfollowed := true, recurses := true, plainKeys := false, apart := false }
def SnapshotFitsSaid : Prop := snapshotFitsRow.holds Tryz.pinned (OpenSpec.ofChange snapshotFitsSpec)

/-- ITS FALSE NEIGHBOUR: 'it returns false'. Refute it at one input. -/
def snapshotFitsWrong : ChangeSpec := { name := "snapshotFits", fn := fun _ => fun
  | [d] => { results := [.lit (.bool false)], args := [d] }
  | _ => none }
def SnapshotFitsWrongFalsely : Prop := snapshotFitsRow.holds Tryz.pinned (OpenSpec.ofChange snapshotFitsWrong)

/-- 'polderlaw23.SnapshotPlays': WHATEVER THE INPUT: true; the input reads as it did. -/
def snapshotPlaysSpec : ChangeSpec := { name := "snapshotPlays", fn := fun _ => fun
  | [d] => { results := [.lit (.bool true)], args := [d] }
  | _ => none }
def snapshotPlaysRow : OpenClaim := { program := "ytphggldkligldaagreat", sum := "408891047afdbd1649b8e41b0fc3668b0f5220857704d10d806a8ef6bac60951", func := "polder/polderlaw23.SnapshotPlays", spec := "snapshotPlays", unfollowed := true, recurses := true, plainKeys := false, apart := false }
def SnapshotPlaysSaid : Prop := snapshotPlaysRow.holds Tryz.pinned (OpenSpec.ofChange snapshotPlaysSpec)

/-- ITS FALSE NEIGHBOUR: 'it returns false'. Refute it at one input. -/
def snapshotPlaysWrong : ChangeSpec := { name := "snapshotPlays", fn := fun _ => fun
  | [d] => { results := [.lit (.bool false)], args := [d] }
  | _ => none }
def SnapshotPlaysWrongFalsely : Prop := snapshotPlaysRow.holds Tryz.pinned (OpenSpec.ofChange snapshotPlaysWrong)

/-- 'poldertop.TopCopies': WHATEVER THE INPUT: true; the input reads as it did. -/
def topCopiesSpec : ChangeSpec := { name := "topCopies", fn := fun _ => fun
  | [d1, d2] => { results := [.lit (.bool true)], args := [d1, d2] }
  | _ => none }
def topCopiesRow : OpenClaim := { program := "ytphggldkligldaagreat", sum := "408891047afdbd1649b8e41b0fc3668b0f5220857704d10d806a8ef6bac60951", func := "polder/poldertop.TopCopies", spec := "topCopies", unfollowed := true, recurses := true, plainKeys := false, apart := false }
def TopCopiesSaid : Prop := topCopiesRow.holds Tryz.pinned (OpenSpec.ofChange topCopiesSpec)

/-- ITS FALSE NEIGHBOUR: 'it returns false'. Refute it at one input. -/
def topCopiesWrong : ChangeSpec := { name := "topCopies", fn := fun _ => fun
  | [d1, d2] => { results := [.lit (.bool false)], args := [d1, d2] }
  | _ => none }
def TopCopiesWrongFalsely : Prop := topCopiesRow.holds Tryz.pinned (OpenSpec.ofChange topCopiesWrong)

/- THE SECOND FORM. 'bulk': how many values and letters a reading holds, each counted each time it is reached (what is shared counts as often as it is met; a slice's spare places count too). A statement '..UptoSaid' is the law's where the arguments, and the package variables that the reading takes, are together of bulk at most 1048576: NARROWER than '..Said'. Prove '..Said' where nothing that the law and all that it calls make is longer than what came in: it says more and counts as full. Else prove '..UptoSaid'. A law counts once. -/
mutual
def uptoBulk {H : Type} : DataW H → Nat
  | .lit (.string bytes) => bytes.length + 1
  | .lit _ => 1
  | .nil => 1
  | .ptr d => uptoBulk d + 1
  | .slice elems spare => uptoBulkAll elems + uptoBulkAll spare + 1
  | .agg parts => uptoBulkAll parts + 1
  | .iface _ d => uptoBulk d + 1
  | .map entries => uptoBulkEntries entries + 1
  | .held _ => 1
def uptoBulkAll {H : Type} : List (DataW H) → Nat
  | [] => 0
  | d :: r => uptoBulk d + uptoBulkAll r
def uptoBulkEntries {H : Type} : List (Lit × DataW H) → Nat
  | [] => 0
  | x :: r => uptoBulkEntry x + uptoBulkEntries r
def uptoBulkEntry {H : Type} : Lit × DataW H → Nat
  | (.string bytes, d) => bytes.length + uptoBulk d + 1
  | (_, d) => uptoBulk d + 1
 end
def uptoSmall : (H : Type) → List (DataW H) → Bool := fun _ ds => decide (uptoBulkAll ds ≤ 1048576)
def OpenSpec.upto (s : _root_.Go.ChangeSpec) : _root_.Go.OpenSpec := { _root_.Go.OpenSpec.ofChange s with cond := some uptoSmall }

/-- 'polderlaw23.SnapshotBytes', WHERE WHAT IT READS IS OF BULK AT MOST 1048576: true; the input reads as it did. -/
def snapshotBytesUptoRow : OpenClaim := { program := "ytphggldkligldaagreat", sum := "408891047afdbd1649b8e41b0fc3668b0f5220857704d10d806a8ef6bac60951", func := "polder/polderlaw23.SnapshotBytes", spec := "snapshotBytes", unfollowed := true, recurses := true, plainKeys := false, apart := false, narrowed := true }
def SnapshotBytesUptoSaid : Prop := snapshotBytesUptoRow.holds Tryz.pinned (OpenSpec.upto snapshotBytesSpec)

/-- 'polderlaw23.SnapshotLoads', WHERE WHAT IT READS IS OF BULK AT MOST 1048576: true; the input reads as it did. -/
def snapshotLoadsUptoRow : OpenClaim := { program := "ytphggldkligldaagreat", sum := "408891047afdbd1649b8e41b0fc3668b0f5220857704d10d806a8ef6bac60951", func := "polder/polderlaw23.SnapshotLoads", spec := "snapshotLoads", unfollowed := true, recurses := true, plainKeys := false, apart := false, narrowed := true }
def SnapshotLoadsUptoSaid : Prop := snapshotLoadsUptoRow.holds Tryz.pinned (OpenSpec.upto snapshotLoadsSpec)

/-- 'polderlaw23.SnapshotKeeps', WHERE WHAT IT READS IS OF BULK AT MOST 1048576: true; the input reads as it did. -/
def snapshotKeepsUptoRow : OpenClaim := { program := "ytphggldkligldaagreat", sum := "408891047afdbd1649b8e41b0fc3668b0f5220857704d10d806a8ef6bac60951", func := "polder/polderlaw23.SnapshotKeeps", spec := "snapshotKeeps", unfollowed := true, recurses := true, plainKeys := false, apart := false, narrowed := true }
def SnapshotKeepsUptoSaid : Prop := snapshotKeepsUptoRow.holds Tryz.pinned (OpenSpec.upto snapshotKeepsSpec)

/-- 'polderlaw23.SnapshotNone', WHERE WHAT IT READS IS OF BULK AT MOST 1048576: true; the input reads as it did. -/
def snapshotNoneUptoRow : OpenClaim := { program := "ytphggldkligldaagreat", sum := "408891047afdbd1649b8e41b0fc3668b0f5220857704d10d806a8ef6bac60951", func := "polder/polderlaw23.SnapshotNone", spec := "snapshotNone", unfollowed := true, recurses := true, plainKeys := false, apart := false, narrowed := true }
def SnapshotNoneUptoSaid : Prop := snapshotNoneUptoRow.holds Tryz.pinned (OpenSpec.upto snapshotNoneSpec)

/-- 'polderlaw23.SnapshotFits', WHERE WHAT IT READS IS OF BULK AT MOST 1048576: true; the input reads as it did. -/
def snapshotFitsUptoRow : OpenClaim := { program := "ytphggldkligldaagreat", sum := "408891047afdbd1649b8e41b0fc3668b0f5220857704d10d806a8ef6bac60951", func := "polder/polderlaw23.SnapshotFits", spec := "snapshotFits", unfollowed := true, recurses := true, plainKeys := false, apart := false, narrowed := true }
def SnapshotFitsUptoSaid : Prop := snapshotFitsUptoRow.holds Tryz.pinned (OpenSpec.upto snapshotFitsSpec)

/-- 'polderlaw23.SnapshotPlays', WHERE WHAT IT READS IS OF BULK AT MOST 1048576: true; the input reads as it did. -/
def snapshotPlaysUptoRow : OpenClaim := { program := "ytphggldkligldaagreat", sum := "408891047afdbd1649b8e41b0fc3668b0f5220857704d10d806a8ef6bac60951", func := "polder/polderlaw23.SnapshotPlays", spec := "snapshotPlays", unfollowed := true, recurses := true, plainKeys := false, apart := false, narrowed := true }
def SnapshotPlaysUptoSaid : Prop := snapshotPlaysUptoRow.holds Tryz.pinned (OpenSpec.upto snapshotPlaysSpec)

/-- 'poldertop.TopCopies', WHERE WHAT IT READS IS OF BULK AT MOST 1048576: true; the input reads as it did. -/
def topCopiesUptoRow : OpenClaim := { program := "ytphggldkligldaagreat", sum := "408891047afdbd1649b8e41b0fc3668b0f5220857704d10d806a8ef6bac60951", func := "polder/poldertop.TopCopies", spec := "topCopies", unfollowed := true, recurses := true, plainKeys := false, apart := false, narrowed := true }
def TopCopiesUptoSaid : Prop := topCopiesUptoRow.holds Tryz.pinned (OpenSpec.upto topCopiesSpec)

end Rows
end Go.Proofs.YtphggldkligldaaGreat
