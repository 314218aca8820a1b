/-
  DERIVED. GIVEN WITH THE SEED: THE CARDS: each row of YtdhkhjfjjbdkgaaDoorRows.lean that lists a variable, with what it lists TIED to the program's text (the seventh form; the later family's looks); each row that meets fmt, with fmt's text TOLD by the authors' own Lean function (tested against real Go, not proved from fmt's source: count such statements apart). THE CARD IS WHAT COUNTS. Prove the row's statement (the work); the ties are given (YtdhkhjfjjbdkgaaDoorTie.lean); close each card by the builder's one call (the guide's Derived/Test/ToyasCard.lean, 'card_holds'). Laid BY PROGRAM, IN A SANDBOX (cutbox-door.mjs). By AI agents, Wed Nov 11 2026. No macro, syntax, notation, axiom, sorry.
-/
import Derived.Test.YtdhkhjfjjbdkgaaDoorRows
import GoSem.ClaimSeven
namespace Go.Proofs.YtdhkhjfjjbdkgaaDoor
namespace Rows

/-- THE TIED CARD OF 'larderlaw11.TextRows'. -/
def textRowsCard : Claim7 := { stood := { row := textRowsRow, standIns := [], harness := (true, "68b25a31a2f9ee233b727bc9c545b6d4c3a2f65b906ce48f7a5eeb9bfae13b4d"), looks := false }, kinds := [], alts := [], laidByText := true, laidKinds := [.data], laidTests := true, laidLooks := .later }
def TextRowsCardSaid : Prop := Claim7.holds Tryd.pinned (.plain (OpenSpec.ofChange textRowsSpec)) textRowsCard

/-- THE TIED CARD OF 'larderlaw12.RowsTable'. -/
def rowsTableCard : Claim7 := { stood := { row := rowsTableRow, standIns := [], harness := (true, "68b25a31a2f9ee233b727bc9c545b6d4c3a2f65b906ce48f7a5eeb9bfae13b4d"), looks := false }, kinds := [], alts := [], laidByText := true, laidKinds := [.data], laidTests := true, laidLooks := .later }
def RowsTableCardSaid : Prop := Claim7.holds Tryd.pinned (.plain (OpenSpec.ofChange rowsTableSpec)) rowsTableCard

/-- THE TIED CARD OF 'larderlaw13.NestTable'. -/
def nestTableCard : Claim7 := { stood := { row := nestTableRow, standIns := [], harness := (true, "68b25a31a2f9ee233b727bc9c545b6d4c3a2f65b906ce48f7a5eeb9bfae13b4d"), looks := false }, kinds := [], alts := [], laidByText := true, laidKinds := [.data], laidTests := true, laidLooks := .later }
def NestTableCardSaid : Prop := Claim7.holds Tryd.pinned (.plain (OpenSpec.ofChange nestTableSpec)) nestTableCard

/-- THE SECOND FORM's CARD OF 'larderlaw11.TextRows'. -/
def textRowsUptoCard : Claim7 := { stood := { row := textRowsUptoRow, standIns := [], harness := (true, "68b25a31a2f9ee233b727bc9c545b6d4c3a2f65b906ce48f7a5eeb9bfae13b4d"), looks := false }, kinds := [], alts := [], laidByText := true, laidKinds := [.data], laidTests := true, laidLooks := .later }
def TextRowsUptoCardSaid : Prop := Claim7.holds Tryd.pinned (.plain (OpenSpec.upto textRowsSpec)) textRowsUptoCard

/-- THE SECOND FORM's CARD OF 'larderlaw12.RowsTable'. -/
def rowsTableUptoCard : Claim7 := { stood := { row := rowsTableUptoRow, standIns := [], harness := (true, "68b25a31a2f9ee233b727bc9c545b6d4c3a2f65b906ce48f7a5eeb9bfae13b4d"), looks := false }, kinds := [], alts := [], laidByText := true, laidKinds := [.data], laidTests := true, laidLooks := .later }
def RowsTableUptoCardSaid : Prop := Claim7.holds Tryd.pinned (.plain (OpenSpec.upto rowsTableSpec)) rowsTableUptoCard

/-- THE SECOND FORM's CARD OF 'larderlaw13.NestTable'. -/
def nestTableUptoCard : Claim7 := { stood := { row := nestTableUptoRow, standIns := [], harness := (true, "68b25a31a2f9ee233b727bc9c545b6d4c3a2f65b906ce48f7a5eeb9bfae13b4d"), looks := false }, kinds := [], alts := [], laidByText := true, laidKinds := [.data], laidTests := true, laidLooks := .later }
def NestTableUptoCardSaid : Prop := Claim7.holds Tryd.pinned (.plain (OpenSpec.upto nestTableSpec)) nestTableUptoCard
end Rows
end Go.Proofs.YtdhkhjfjjbdkgaaDoor
