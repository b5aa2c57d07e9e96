/-
  DERIVED. GIVEN WITH THE SEED: THE CARDS: each row of YtkahmhmkhfllpaaDoorRows.lean that lists a variable, with what it lists TIED to the program's text (the seventh form; the later family's looks); each row that meets fmt, with fmt's text TOLD by the authors' own Lean function (tested against real Go, not proved from fmt's source: count such statements apart). THE CARD IS WHAT COUNTS. Prove the row's statement (the work); the ties are given (YtkahmhmkhfllpaaDoorTie.lean); close each card by the builder's one call (the guide's Derived/Test/ToyasCard.lean, 'card_holds'). Laid BY PROGRAM, IN A SANDBOX (cutbox-door.mjs). By AI agents, Wed Nov 11 2026. No macro, syntax, notation, axiom, sorry.
-/
import Derived.Test.YtkahmhmkhfllpaaDoorRows
import GoSem.ClaimSeven
namespace Go.Proofs.YtkahmhmkhfllpaaDoor
namespace Rows

/-- THE TIED CARD OF 'polderlaw15.ZeroingSystem'. -/
def zeroingSystemCard : Claim7 := { stood := { row := zeroingSystemRow, standIns := [], harness := (true, "5c60d62028bf5237b64f2e371c7526dfaa097686edd137bc3a37ad7e4bee4b3a"), looks := false }, kinds := [], alts := [], laidByText := true, laidKinds := [.data], laidTests := true, laidLooks := .later }
def ZeroingSystemCardSaid : Prop := Claim7.holds Tryd.pinned (.plain (OpenSpec.ofChange zeroingSystemSpec)) zeroingSystemCard

/-- THE TIED CARD OF 'polderlaw15.ZeroingReads'. -/
def zeroingReadsCard : Claim7 := { stood := { row := zeroingReadsRow, standIns := [], harness := (true, "5c60d62028bf5237b64f2e371c7526dfaa097686edd137bc3a37ad7e4bee4b3a"), looks := false }, kinds := [], alts := [], laidByText := true, laidKinds := [.data], laidTests := true, laidLooks := .later }
def ZeroingReadsCardSaid : Prop := Claim7.holds Tryd.pinned (.plain (OpenSpec.ofChange zeroingReadsSpec)) zeroingReadsCard

/-- THE SECOND FORM's CARD OF 'polderlaw15.ZeroingSystem'. -/
def zeroingSystemUptoCard : Claim7 := { stood := { row := zeroingSystemUptoRow, standIns := [], harness := (true, "5c60d62028bf5237b64f2e371c7526dfaa097686edd137bc3a37ad7e4bee4b3a"), looks := false }, kinds := [], alts := [], laidByText := true, laidKinds := [.data], laidTests := true, laidLooks := .later }
def ZeroingSystemUptoCardSaid : Prop := Claim7.holds Tryd.pinned (.plain (OpenSpec.upto zeroingSystemSpec)) zeroingSystemUptoCard

/-- THE SECOND FORM's CARD OF 'polderlaw15.ZeroingReads'. -/
def zeroingReadsUptoCard : Claim7 := { stood := { row := zeroingReadsUptoRow, standIns := [], harness := (true, "5c60d62028bf5237b64f2e371c7526dfaa097686edd137bc3a37ad7e4bee4b3a"), looks := false }, kinds := [], alts := [], laidByText := true, laidKinds := [.data], laidTests := true, laidLooks := .later }
def ZeroingReadsUptoCardSaid : Prop := Claim7.holds Tryd.pinned (.plain (OpenSpec.upto zeroingReadsSpec)) zeroingReadsUptoCard
end Rows
end Go.Proofs.YtkahmhmkhfllpaaDoor
