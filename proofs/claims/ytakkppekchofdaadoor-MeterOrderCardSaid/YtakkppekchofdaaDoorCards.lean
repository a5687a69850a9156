/-
  DERIVED. GIVEN WITH THE SEED: THE CARDS: each row of YtakkppekchofdaaDoorRows.lean that lists a variable, with what it lists TIED to the program's text (the seventh form; the later family's looks); each row that meets fmt, with fmt's text TOLD by the authors' own Lean function (tested against real Go, not proved from fmt's source: count such statements apart). THE CARD IS WHAT COUNTS. Prove the row's statement (the work); the ties are given (YtakkppekchofdaaDoorTie.lean); close each card by the builder's one call (the guide's Derived/Test/ToyasCard.lean, 'card_holds'). Laid BY PROGRAM, IN A SANDBOX (cutbox-door.mjs). By AI agents, Wed Nov 11 2026. No macro, syntax, notation, axiom, sorry.
-/
import Derived.Test.YtakkppekchofdaaDoorRows
import GoSem.ClaimSeven
namespace Go.Proofs.YtakkppekchofdaaDoor
namespace Rows

/-- THE TIED CARD OF 'stevedorelaw04.MeterPlays'. -/
def meterPlaysCard : Claim7 := { stood := { row := meterPlaysRow, standIns := [], harness := (true, "6f0890050433e3409460d9e1357a35ec318fe23a11d76ee342353e76d92dff2d"), looks := true }, kinds := [], alts := [], laidByText := true, laidKinds := [.data, .pinned], laidTests := true, laidLooks := .later }
def MeterPlaysCardSaid : Prop := Claim7.holds Tryd.pinned (.plain (OpenSpec.ofChange meterPlaysSpec)) meterPlaysCard

/-- THE TIED CARD OF 'stevedorelaw04.MeterJoins'. -/
def meterJoinsCard : Claim7 := { stood := { row := meterJoinsRow, standIns := [], harness := (true, "6f0890050433e3409460d9e1357a35ec318fe23a11d76ee342353e76d92dff2d"), looks := true }, kinds := [], alts := [], laidByText := true, laidKinds := [.data, .pinned], laidTests := true, laidLooks := .later }
def MeterJoinsCardSaid : Prop := Claim7.holds Tryd.pinned (.plain (OpenSpec.ofChange meterJoinsSpec)) meterJoinsCard

/-- THE TIED CARD OF 'stevedorelaw04.MeterOrder'. -/
def meterOrderCard : Claim7 := { stood := { row := meterOrderRow, standIns := [], harness := (true, "6f0890050433e3409460d9e1357a35ec318fe23a11d76ee342353e76d92dff2d"), looks := true }, kinds := [], alts := [], laidByText := true, laidKinds := [.data, .pinned], laidTests := true, laidLooks := .later }
def MeterOrderCardSaid : Prop := Claim7.holds Tryd.pinned (.plain (OpenSpec.ofChange meterOrderSpec)) meterOrderCard

/-- THE TIED CARD OF 'stevedorelaw04.MeterFull'. -/
def meterFullCard : Claim7 := { stood := { row := meterFullRow, standIns := [], harness := (true, "6f0890050433e3409460d9e1357a35ec318fe23a11d76ee342353e76d92dff2d"), looks := true }, kinds := [], alts := [], laidByText := true, laidKinds := [.data, .pinned], laidTests := true, laidLooks := .later }
def MeterFullCardSaid : Prop := Claim7.holds Tryd.pinned (.plain (OpenSpec.ofChange meterFullSpec)) meterFullCard

/-- THE SECOND FORM's CARD OF 'stevedorelaw04.MeterPlays'. -/
def meterPlaysUptoCard : Claim7 := { stood := { row := meterPlaysUptoRow, standIns := [], harness := (true, "6f0890050433e3409460d9e1357a35ec318fe23a11d76ee342353e76d92dff2d"), looks := true }, kinds := [], alts := [], laidByText := true, laidKinds := [.data, .pinned], laidTests := true, laidLooks := .later }
def MeterPlaysUptoCardSaid : Prop := Claim7.holds Tryd.pinned (.plain (OpenSpec.upto meterPlaysSpec)) meterPlaysUptoCard

/-- THE SECOND FORM's CARD OF 'stevedorelaw04.MeterJoins'. -/
def meterJoinsUptoCard : Claim7 := { stood := { row := meterJoinsUptoRow, standIns := [], harness := (true, "6f0890050433e3409460d9e1357a35ec318fe23a11d76ee342353e76d92dff2d"), looks := true }, kinds := [], alts := [], laidByText := true, laidKinds := [.data, .pinned], laidTests := true, laidLooks := .later }
def MeterJoinsUptoCardSaid : Prop := Claim7.holds Tryd.pinned (.plain (OpenSpec.upto meterJoinsSpec)) meterJoinsUptoCard

/-- THE SECOND FORM's CARD OF 'stevedorelaw04.MeterOrder'. -/
def meterOrderUptoCard : Claim7 := { stood := { row := meterOrderUptoRow, standIns := [], harness := (true, "6f0890050433e3409460d9e1357a35ec318fe23a11d76ee342353e76d92dff2d"), looks := true }, kinds := [], alts := [], laidByText := true, laidKinds := [.data, .pinned], laidTests := true, laidLooks := .later }
def MeterOrderUptoCardSaid : Prop := Claim7.holds Tryd.pinned (.plain (OpenSpec.upto meterOrderSpec)) meterOrderUptoCard

/-- THE SECOND FORM's CARD OF 'stevedorelaw04.MeterFull'. -/
def meterFullUptoCard : Claim7 := { stood := { row := meterFullUptoRow, standIns := [], harness := (true, "6f0890050433e3409460d9e1357a35ec318fe23a11d76ee342353e76d92dff2d"), looks := true }, kinds := [], alts := [], laidByText := true, laidKinds := [.data, .pinned], laidTests := true, laidLooks := .later }
def MeterFullUptoCardSaid : Prop := Claim7.holds Tryd.pinned (.plain (OpenSpec.upto meterFullSpec)) meterFullUptoCard
end Rows
end Go.Proofs.YtakkppekchofdaaDoor
