/-
  DERIVED. GIVEN WITH THE SEED: THE PROGRAM's TIES (one call each: nine closed facts by the kernel) AND EACH ROW's TIE, after the 31st guide's Derived/Test/Toyas{Tie, Card}.lean. No idea stands in it: it is a product of the set-up. Laid BY PROGRAM, IN A SANDBOX (cutbox-door.mjs). By AI agents, Wed Nov 11 2026. No macro, syntax, notation, axiom, sorry.
-/
import Derived.Test.YtdhkhjfjjbdkgaaDoorRows
import Derived.LaidByTextLater
import Derived.SevenTiedAt
import Derived.LaidSub
import Derived.LaidOnce
namespace Go.Proofs.YtdhkhjfjjbdkgaaDoor
open Go
set_option maxRecDepth 100000
theorem seatTie1 : Tryd.prog.laidByTextLater [("larder/text.rows", Rows.laid_larder_text_rows)] [.data] true :=
  Program.laidByTextLater_by_one 95 8 204 (by kernel_rfl) (by kernel_rfl) (by kernel_rfl) (by kernel_rfl) (by kernel_rfl) (by kernel_rfl) (fun _ _ => by kernel_rfl)
theorem seatTie2 : Tryd.prog.laidByTextLater [("larder/rows.commands", Rows.laid_larder_rows_commands)] [.data] true :=
  Program.laidByTextLater_by_one 95 8 204 (by kernel_rfl) (by kernel_rfl) (by kernel_rfl) (by kernel_rfl) (by kernel_rfl) (by kernel_rfl) (fun _ _ => by kernel_rfl)
theorem seatTie3 : Tryd.prog.laidByTextLater [("larder/nest.commands", Rows.laid_larder_nest_commands)] [.data] true :=
  Program.laidByTextLater_by_one 95 8 204 (by kernel_rfl) (by kernel_rfl) (by kernel_rfl) (by kernel_rfl) (by kernel_rfl) (by kernel_rfl) (fun _ _ => by kernel_rfl)
theorem noOwnUnsafe : Tryd.pinned.checked.prog.headLifts.contains "ownunsafe" = false := by kernel_rfl
theorem tie : Tryd.prog.laidByTextLater [("larder/text.rows", Rows.laid_larder_text_rows)] [.data] true :=
  Program.laidByTextLater.sub seatTie1 ["larder/text.rows"] (by kernel_rfl) (by kernel_rfl)
theorem textRows_row_tie : Rows.textRowsRow.laidByTextAt .later Tryd.pinned [.data] true :=
  OpenClaim.laidByTextAt_later rfl rfl tie noOwnUnsafe
theorem tie2 : Tryd.prog.laidByTextLater [("larder/rows.commands", Rows.laid_larder_rows_commands)] [.data] true :=
  Program.laidByTextLater.sub seatTie2 ["larder/rows.commands"] (by kernel_rfl) (by kernel_rfl)
theorem rowsTable_row_tie : Rows.rowsTableRow.laidByTextAt .later Tryd.pinned [.data] true :=
  OpenClaim.laidByTextAt_later rfl rfl tie2 noOwnUnsafe
theorem tie3 : Tryd.prog.laidByTextLater [("larder/nest.commands", Rows.laid_larder_nest_commands)] [.data] true :=
  Program.laidByTextLater.sub seatTie3 ["larder/nest.commands"] (by kernel_rfl) (by kernel_rfl)
theorem nestTable_row_tie : Rows.nestTableRow.laidByTextAt .later Tryd.pinned [.data] true :=
  OpenClaim.laidByTextAt_later rfl rfl tie3 noOwnUnsafe
theorem textRowsUpto_row_tie : Rows.textRowsUptoRow.laidByTextAt .later Tryd.pinned [.data] true :=
  OpenClaim.laidByTextAt_later rfl rfl tie noOwnUnsafe
theorem rowsTableUpto_row_tie : Rows.rowsTableUptoRow.laidByTextAt .later Tryd.pinned [.data] true :=
  OpenClaim.laidByTextAt_later rfl rfl tie2 noOwnUnsafe
theorem nestTableUpto_row_tie : Rows.nestTableUptoRow.laidByTextAt .later Tryd.pinned [.data] true :=
  OpenClaim.laidByTextAt_later rfl rfl tie3 noOwnUnsafe
end Go.Proofs.YtdhkhjfjjbdkgaaDoor
