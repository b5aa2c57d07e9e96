/-
  DERIVED. GIVEN WITH THE SEED: THE CARDS: each row of YtjhmknnokloneaaDoorRows.lean that lists a variable, with what it lists TIED to the program's text (the seventh form; the later family's looks); each row that meets fmt, with fmt's text TOLD by the authors' own Lean function (tested against real Go, not proved from fmt's source: count such statements apart). THE CARD IS WHAT COUNTS. Prove the row's statement (the work); the ties are given (YtjhmknnokloneaaDoorTie.lean); close each card by the builder's one call (the guide's Derived/Test/ToyasCard.lean, 'card_holds'). Laid BY PROGRAM, IN A SANDBOX (cutbox-door.mjs). By AI agents, Wed Nov 11 2026. No macro, syntax, notation, axiom, sorry.
-/
import Derived.Test.YtjhmknnokloneaaDoorRows
import GoSem.ClaimSeven
namespace Go.Proofs.YtjhmknnokloneaaDoor
namespace Rows

/-- THE TIED CARD OF 'polderlaw15.ZeroingWrites'. -/
def zeroingWritesCard : Claim7 := { stood := { row := zeroingWritesRow, standIns := [], harness := (true, "1fc998afbc64710168fdfeb129ea4c2ba0f35d6542b5e5f529827d61344b1aa4"), looks := false }, kinds := [], alts := [], laidByText := true, laidKinds := [.data], laidTests := true, laidLooks := .later }
def ZeroingWritesCardSaid : Prop := Claim7.holds Tryd.pinned (.plain (OpenSpec.ofChange zeroingWritesSpec)) zeroingWritesCard

/-- THE TIED CARD OF 'polderlaw15.ZeroingExact'. -/
def zeroingExactCard : Claim7 := { stood := { row := zeroingExactRow, standIns := [], harness := (true, "1fc998afbc64710168fdfeb129ea4c2ba0f35d6542b5e5f529827d61344b1aa4"), looks := false }, kinds := [], alts := [], laidByText := true, laidKinds := [.data], laidTests := true, laidLooks := .later }
def ZeroingExactCardSaid : Prop := Claim7.holds Tryd.pinned (.plain (OpenSpec.ofChange zeroingExactSpec)) zeroingExactCard

/-- THE TIED CARD OF 'polderlaw15.ZeroingGives'. -/
def zeroingGivesCard : Claim7 := { stood := { row := zeroingGivesRow, standIns := [], harness := (true, "1fc998afbc64710168fdfeb129ea4c2ba0f35d6542b5e5f529827d61344b1aa4"), looks := false }, kinds := [], alts := [], laidByText := true, laidKinds := [.data], laidTests := true, laidLooks := .later }
def ZeroingGivesCardSaid : Prop := Claim7.holds Tryd.pinned (.plain (OpenSpec.ofChange zeroingGivesSpec)) zeroingGivesCard

/-- THE TIED CARD OF 'polderlaw15.ZeroingChecks'. -/
def zeroingChecksCard : Claim7 := { stood := { row := zeroingChecksRow, standIns := [], harness := (true, "1fc998afbc64710168fdfeb129ea4c2ba0f35d6542b5e5f529827d61344b1aa4"), looks := false }, kinds := [], alts := [], laidByText := true, laidKinds := [.data], laidTests := true, laidLooks := .later }
def ZeroingChecksCardSaid : Prop := Claim7.holds Tryd.pinned (.plain (OpenSpec.ofChange zeroingChecksSpec)) zeroingChecksCard

/-- THE TIED CARD OF 'polderlaw15.ZeroingCovers'. -/
def zeroingCoversCard : Claim7 := { stood := { row := zeroingCoversRow, standIns := [], harness := (true, "1fc998afbc64710168fdfeb129ea4c2ba0f35d6542b5e5f529827d61344b1aa4"), looks := false }, kinds := [], alts := [], laidByText := true, laidKinds := [.data], laidTests := true, laidLooks := .later }
def ZeroingCoversCardSaid : Prop := Claim7.holds Tryd.pinned (.plain (OpenSpec.ofChange zeroingCoversSpec)) zeroingCoversCard

/-- THE TIED CARD OF 'polderlaw15.ZeroingOrder'. -/
def zeroingOrderCard : Claim7 := { stood := { row := zeroingOrderRow, standIns := [], harness := (true, "1fc998afbc64710168fdfeb129ea4c2ba0f35d6542b5e5f529827d61344b1aa4"), looks := false }, kinds := [], alts := [], laidByText := true, laidKinds := [.data], laidTests := true, laidLooks := .later }
def ZeroingOrderCardSaid : Prop := Claim7.holds Tryd.pinned (.plain (OpenSpec.ofChange zeroingOrderSpec)) zeroingOrderCard

/-- THE SECOND FORM's CARD OF 'polderlaw15.ZeroingWrites'. -/
def zeroingWritesUptoCard : Claim7 := { stood := { row := zeroingWritesUptoRow, standIns := [], harness := (true, "1fc998afbc64710168fdfeb129ea4c2ba0f35d6542b5e5f529827d61344b1aa4"), looks := false }, kinds := [], alts := [], laidByText := true, laidKinds := [.data], laidTests := true, laidLooks := .later }
def ZeroingWritesUptoCardSaid : Prop := Claim7.holds Tryd.pinned (.plain (OpenSpec.upto zeroingWritesSpec)) zeroingWritesUptoCard

/-- THE SECOND FORM's CARD OF 'polderlaw15.ZeroingExact'. -/
def zeroingExactUptoCard : Claim7 := { stood := { row := zeroingExactUptoRow, standIns := [], harness := (true, "1fc998afbc64710168fdfeb129ea4c2ba0f35d6542b5e5f529827d61344b1aa4"), looks := false }, kinds := [], alts := [], laidByText := true, laidKinds := [.data], laidTests := true, laidLooks := .later }
def ZeroingExactUptoCardSaid : Prop := Claim7.holds Tryd.pinned (.plain (OpenSpec.upto zeroingExactSpec)) zeroingExactUptoCard

/-- THE SECOND FORM's CARD OF 'polderlaw15.ZeroingGives'. -/
def zeroingGivesUptoCard : Claim7 := { stood := { row := zeroingGivesUptoRow, standIns := [], harness := (true, "1fc998afbc64710168fdfeb129ea4c2ba0f35d6542b5e5f529827d61344b1aa4"), looks := false }, kinds := [], alts := [], laidByText := true, laidKinds := [.data], laidTests := true, laidLooks := .later }
def ZeroingGivesUptoCardSaid : Prop := Claim7.holds Tryd.pinned (.plain (OpenSpec.upto zeroingGivesSpec)) zeroingGivesUptoCard

/-- THE SECOND FORM's CARD OF 'polderlaw15.ZeroingChecks'. -/
def zeroingChecksUptoCard : Claim7 := { stood := { row := zeroingChecksUptoRow, standIns := [], harness := (true, "1fc998afbc64710168fdfeb129ea4c2ba0f35d6542b5e5f529827d61344b1aa4"), looks := false }, kinds := [], alts := [], laidByText := true, laidKinds := [.data], laidTests := true, laidLooks := .later }
def ZeroingChecksUptoCardSaid : Prop := Claim7.holds Tryd.pinned (.plain (OpenSpec.upto zeroingChecksSpec)) zeroingChecksUptoCard

/-- THE SECOND FORM's CARD OF 'polderlaw15.ZeroingCovers'. -/
def zeroingCoversUptoCard : Claim7 := { stood := { row := zeroingCoversUptoRow, standIns := [], harness := (true, "1fc998afbc64710168fdfeb129ea4c2ba0f35d6542b5e5f529827d61344b1aa4"), looks := false }, kinds := [], alts := [], laidByText := true, laidKinds := [.data], laidTests := true, laidLooks := .later }
def ZeroingCoversUptoCardSaid : Prop := Claim7.holds Tryd.pinned (.plain (OpenSpec.upto zeroingCoversSpec)) zeroingCoversUptoCard

/-- THE SECOND FORM's CARD OF 'polderlaw15.ZeroingOrder'. -/
def zeroingOrderUptoCard : Claim7 := { stood := { row := zeroingOrderUptoRow, standIns := [], harness := (true, "1fc998afbc64710168fdfeb129ea4c2ba0f35d6542b5e5f529827d61344b1aa4"), looks := false }, kinds := [], alts := [], laidByText := true, laidKinds := [.data], laidTests := true, laidLooks := .later }
def ZeroingOrderUptoCardSaid : Prop := Claim7.holds Tryd.pinned (.plain (OpenSpec.upto zeroingOrderSpec)) zeroingOrderUptoCard
end Rows
end Go.Proofs.YtjhmknnokloneaaDoor
