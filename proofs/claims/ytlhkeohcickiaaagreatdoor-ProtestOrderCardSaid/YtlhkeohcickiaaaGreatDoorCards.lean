/-
  DERIVED. GIVEN WITH THE SEED: THE CARDS: each row of YtlhkeohcickiaaaGreatDoorRows.lean that lists a variable, with what it lists TIED to the program's text (the seventh form; the later family's looks); each row that meets fmt, with fmt's text TOLD by the authors' own Lean function (tested against real Go, not proved from fmt's source: count such statements apart). THE CARD IS WHAT COUNTS. Prove the row's statement (the work); the ties are given (YtlhkeohcickiaaaGreatDoorTie.lean); close each card by the builder's one call (the guide's Derived/Test/ToyasCard.lean, 'card_holds'). Laid BY PROGRAM, IN A SANDBOX (cutbox-door.mjs). By AI agents, Wed Nov 11 2026. No macro, syntax, notation, axiom, sorry.
-/
import Derived.Test.YtlhkeohcickiaaaGreatDoorRows
import GoSem.ClaimSeven
namespace Go.Proofs.YtlhkeohcickiaaaGreatDoor
namespace Rows

/-- THE TIED CARD OF 'besomlaw09.ProtestBooks'. -/
def protestBooksCard : Claim7 := { stood := { row := protestBooksRow, standIns := [], harness := (true, "98843cd4e3891271ebdf8b02a3300920f08920e848e48566e9e63e5fe3d60fc8"), looks := true }, kinds := [], alts := [], laidByText := true, laidKinds := [.data, .pinned], laidTests := true, laidLooks := .later }
def ProtestBooksCardSaid : Prop := Claim7.holds Tryz.pinned (.plain (OpenSpec.ofChange protestBooksSpec)) protestBooksCard

/-- THE TIED CARD OF 'besomlaw09.ProtestHolds'. -/
def protestHoldsCard : Claim7 := { stood := { row := protestHoldsRow, standIns := [], harness := (true, "98843cd4e3891271ebdf8b02a3300920f08920e848e48566e9e63e5fe3d60fc8"), looks := true }, kinds := [], alts := [], laidByText := true, laidKinds := [.data, .pinned], laidTests := true, laidLooks := .later }
def ProtestHoldsCardSaid : Prop := Claim7.holds Tryz.pinned (.plain (OpenSpec.ofChange protestHoldsSpec)) protestHoldsCard

/-- THE TIED CARD OF 'besomlaw09.ProtestModel'. -/
def protestModelCard : Claim7 := { stood := { row := protestModelRow, standIns := [], harness := (true, "98843cd4e3891271ebdf8b02a3300920f08920e848e48566e9e63e5fe3d60fc8"), looks := true }, kinds := [], alts := [], laidByText := true, laidKinds := [.data, .pinned], laidTests := true, laidLooks := .later }
def ProtestModelCardSaid : Prop := Claim7.holds Tryz.pinned (.plain (OpenSpec.ofChange protestModelSpec)) protestModelCard

/-- THE TIED CARD OF 'besomlaw09.ProtestOrder'. -/
def protestOrderCard : Claim7 := { stood := { row := protestOrderRow, standIns := [], harness := (true, "98843cd4e3891271ebdf8b02a3300920f08920e848e48566e9e63e5fe3d60fc8"), looks := true }, kinds := [], alts := [], laidByText := true, laidKinds := [.data, .pinned], laidTests := true, laidLooks := .later }
def ProtestOrderCardSaid : Prop := Claim7.holds Tryz.pinned (.plain (OpenSpec.ofChange protestOrderSpec)) protestOrderCard

/-- THE TIED CARD OF 'besomlaw09.ProtestOwns'. -/
def protestOwnsCard : Claim7 := { stood := { row := protestOwnsRow, standIns := [], harness := (true, "98843cd4e3891271ebdf8b02a3300920f08920e848e48566e9e63e5fe3d60fc8"), looks := true }, kinds := [], alts := [], laidByText := true, laidKinds := [.data, .pinned], laidTests := true, laidLooks := .later }
def ProtestOwnsCardSaid : Prop := Claim7.holds Tryz.pinned (.plain (OpenSpec.ofChange protestOwnsSpec)) protestOwnsCard

/-- THE TIED CARD OF 'besomlaw09.ProtestProofs'. -/
def protestProofsCard : Claim7 := { stood := { row := protestProofsRow, standIns := [], harness := (true, "98843cd4e3891271ebdf8b02a3300920f08920e848e48566e9e63e5fe3d60fc8"), looks := true }, kinds := [], alts := [], laidByText := true, laidKinds := [.data, .pinned], laidTests := true, laidLooks := .later }
def ProtestProofsCardSaid : Prop := Claim7.holds Tryz.pinned (.plain (OpenSpec.ofChange protestProofsSpec)) protestProofsCard

/-- THE TIED CARD OF 'besomlaw09.ProtestSound'. -/
def protestSoundCard : Claim7 := { stood := { row := protestSoundRow, standIns := [], harness := (true, "98843cd4e3891271ebdf8b02a3300920f08920e848e48566e9e63e5fe3d60fc8"), looks := true }, kinds := [], alts := [], laidByText := true, laidKinds := [.data, .pinned], laidTests := true, laidLooks := .later }
def ProtestSoundCardSaid : Prop := Claim7.holds Tryz.pinned (.plain (OpenSpec.ofChange protestSoundSpec)) protestSoundCard

/-- THE SECOND FORM's CARD OF 'besomlaw09.ProtestBooks'. -/
def protestBooksUptoCard : Claim7 := { stood := { row := protestBooksUptoRow, standIns := [], harness := (true, "98843cd4e3891271ebdf8b02a3300920f08920e848e48566e9e63e5fe3d60fc8"), looks := true }, kinds := [], alts := [], laidByText := true, laidKinds := [.data, .pinned], laidTests := true, laidLooks := .later }
def ProtestBooksUptoCardSaid : Prop := Claim7.holds Tryz.pinned (.plain (OpenSpec.upto protestBooksSpec)) protestBooksUptoCard

/-- THE SECOND FORM's CARD OF 'besomlaw09.ProtestHolds'. -/
def protestHoldsUptoCard : Claim7 := { stood := { row := protestHoldsUptoRow, standIns := [], harness := (true, "98843cd4e3891271ebdf8b02a3300920f08920e848e48566e9e63e5fe3d60fc8"), looks := true }, kinds := [], alts := [], laidByText := true, laidKinds := [.data, .pinned], laidTests := true, laidLooks := .later }
def ProtestHoldsUptoCardSaid : Prop := Claim7.holds Tryz.pinned (.plain (OpenSpec.upto protestHoldsSpec)) protestHoldsUptoCard

/-- THE SECOND FORM's CARD OF 'besomlaw09.ProtestModel'. -/
def protestModelUptoCard : Claim7 := { stood := { row := protestModelUptoRow, standIns := [], harness := (true, "98843cd4e3891271ebdf8b02a3300920f08920e848e48566e9e63e5fe3d60fc8"), looks := true }, kinds := [], alts := [], laidByText := true, laidKinds := [.data, .pinned], laidTests := true, laidLooks := .later }
def ProtestModelUptoCardSaid : Prop := Claim7.holds Tryz.pinned (.plain (OpenSpec.upto protestModelSpec)) protestModelUptoCard

/-- THE SECOND FORM's CARD OF 'besomlaw09.ProtestOrder'. -/
def protestOrderUptoCard : Claim7 := { stood := { row := protestOrderUptoRow, standIns := [], harness := (true, "98843cd4e3891271ebdf8b02a3300920f08920e848e48566e9e63e5fe3d60fc8"), looks := true }, kinds := [], alts := [], laidByText := true, laidKinds := [.data, .pinned], laidTests := true, laidLooks := .later }
def ProtestOrderUptoCardSaid : Prop := Claim7.holds Tryz.pinned (.plain (OpenSpec.upto protestOrderSpec)) protestOrderUptoCard

/-- THE SECOND FORM's CARD OF 'besomlaw09.ProtestOwns'. -/
def protestOwnsUptoCard : Claim7 := { stood := { row := protestOwnsUptoRow, standIns := [], harness := (true, "98843cd4e3891271ebdf8b02a3300920f08920e848e48566e9e63e5fe3d60fc8"), looks := true }, kinds := [], alts := [], laidByText := true, laidKinds := [.data, .pinned], laidTests := true, laidLooks := .later }
def ProtestOwnsUptoCardSaid : Prop := Claim7.holds Tryz.pinned (.plain (OpenSpec.upto protestOwnsSpec)) protestOwnsUptoCard

/-- THE SECOND FORM's CARD OF 'besomlaw09.ProtestProofs'. -/
def protestProofsUptoCard : Claim7 := { stood := { row := protestProofsUptoRow, standIns := [], harness := (true, "98843cd4e3891271ebdf8b02a3300920f08920e848e48566e9e63e5fe3d60fc8"), looks := true }, kinds := [], alts := [], laidByText := true, laidKinds := [.data, .pinned], laidTests := true, laidLooks := .later }
def ProtestProofsUptoCardSaid : Prop := Claim7.holds Tryz.pinned (.plain (OpenSpec.upto protestProofsSpec)) protestProofsUptoCard

/-- THE SECOND FORM's CARD OF 'besomlaw09.ProtestSound'. -/
def protestSoundUptoCard : Claim7 := { stood := { row := protestSoundUptoRow, standIns := [], harness := (true, "98843cd4e3891271ebdf8b02a3300920f08920e848e48566e9e63e5fe3d60fc8"), looks := true }, kinds := [], alts := [], laidByText := true, laidKinds := [.data, .pinned], laidTests := true, laidLooks := .later }
def ProtestSoundUptoCardSaid : Prop := Claim7.holds Tryz.pinned (.plain (OpenSpec.upto protestSoundSpec)) protestSoundUptoCard
end Rows
end Go.Proofs.YtlhkeohcickiaaaGreatDoor
