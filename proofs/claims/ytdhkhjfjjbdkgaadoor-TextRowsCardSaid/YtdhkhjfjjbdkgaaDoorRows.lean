/-
  NARROWER THAN 'FOR EVERY INPUT', by the rows' own cells (each row's printed sentence says how): TextRows: laid · RowsTable: laid · NestTable: laid.
  DERIVED. THE GIVEN ROWS OF THIS SEAT. 3 by the template 'for every input the law returns true; each argument reads behind the call as it read before'; 0 by the template 'total and deterministic' (their statements: YtdhkhjfjjbdkgaaDoorTotals.lean).
  GIVEN WITH THE SEED: the statements are not yours to turn. If you find one false, say at which input.
  Laid BY PROGRAM, IN A SANDBOX (cutbox-rows.mjs): the forced cells as the released guide's own fill.sh prints them over the translation 564cc59f89571731… (all of the seat's roots in one cut). By AI agents, Wed Nov 11 2026. No macro, syntax, notation, axiom, sorry.
-/
import Derived.Test.YtdhkhjfjjbdkgaaDoorChecked
import GoSem.Claim
import GoSem.ClaimJoined
import GoSem.ClaimMapViews
import Derived.JoinedTies
import Derived.KernelRfl
namespace Go.Proofs.YtdhkhjfjjbdkgaaDoor
/- THE CELL 'sum', in the pinned program and in every row, IS THE sha256 OF THE DUMP (.gsa) THAT YtdhkhjfjjbdkgaaDoorProg.lean LOADS. Nothing in Lean hashes anything: it is a label: what it is worth is what the hold of that sum in a sandbox is worth. -/
noncomputable def Tryd.pinned : Pinned := { name := "ytdhkhjfjjbdkgaadoor", sum := "564cc59f89571731b6d4780e71b65209f748435550b083e02cdac740a2fb35f5", checked := Tryd.checked }
namespace Rows
def none {H : Type} : Left H := { results := [], args := [] }

/- WHAT THE LISTED PACKAGE-LEVEL VARIABLES READ AS WHEN THE CALL BEGINS. Each datum BY PROGRAM (the guide's laid-datum.mjs) off the statement by which the dump's own 'gosem.cut.vars' lays the variable. In a bare row this is a premise. The card (YtdhkhjfjjbdkgaaDoorCards.lean) ties it to the program's text. -/
def laid_larder_text_rows {H : Type} : DataW H := .agg [.agg [.lit (.string [65, 80, 80, 69, 78, 68]), .lit (.int .i64 3), .lit (.bool true), .lit (.int .i64 1), .lit (.int .i64 1), .lit (.int .i64 1), .lit (.int .i64 0)], .agg [.lit (.string [66, 73, 84, 67, 79, 85, 78, 84]), .lit (.int .i64 (-2)), .lit (.bool false), .lit (.int .i64 1), .lit (.int .i64 1), .lit (.int .i64 1), .lit (.int .i64 0)], .agg [.lit (.string [66, 73, 84, 70, 73, 69, 76, 68]), .lit (.int .i64 (-2)), .lit (.bool true), .lit (.int .i64 1), .lit (.int .i64 1), .lit (.int .i64 1), .lit (.int .i64 0)], .agg [.lit (.string [66, 73, 84, 79, 80]), .lit (.int .i64 (-4)), .lit (.bool true), .lit (.int .i64 2), .lit (.int .i64 (-1)), .lit (.int .i64 1), .lit (.int .i64 0)], .agg [.lit (.string [66, 73, 84, 80, 79, 83]), .lit (.int .i64 (-3)), .lit (.bool false), .lit (.int .i64 1), .lit (.int .i64 1), .lit (.int .i64 1), .lit (.int .i64 0)], .agg [.lit (.string [68, 69, 67, 82]), .lit (.int .i64 2), .lit (.bool true), .lit (.int .i64 1), .lit (.int .i64 1), .lit (.int .i64 1), .lit (.int .i64 0)], .agg [.lit (.string [68, 69, 67, 82, 66, 89]), .lit (.int .i64 3), .lit (.bool true), .lit (.int .i64 1), .lit (.int .i64 1), .lit (.int .i64 1), .lit (.int .i64 0)], .agg [.lit (.string [71, 69, 84]), .lit (.int .i64 2), .lit (.bool false), .lit (.int .i64 1), .lit (.int .i64 1), .lit (.int .i64 1), .lit (.int .i64 0)], .agg [.lit (.string [71, 69, 84, 66, 73, 84]), .lit (.int .i64 3), .lit (.bool false), .lit (.int .i64 1), .lit (.int .i64 1), .lit (.int .i64 1), .lit (.int .i64 0)], .agg [.lit (.string [71, 69, 84, 68, 69, 76]), .lit (.int .i64 2), .lit (.bool true), .lit (.int .i64 1), .lit (.int .i64 1), .lit (.int .i64 1), .lit (.int .i64 0)], .agg [.lit (.string [71, 69, 84, 69, 88]), .lit (.int .i64 (-2)), .lit (.bool true), .lit (.int .i64 1), .lit (.int .i64 1), .lit (.int .i64 1), .lit (.int .i64 0)], .agg [.lit (.string [71, 69, 84, 82, 65, 78, 71, 69]), .lit (.int .i64 4), .lit (.bool false), .lit (.int .i64 1), .lit (.int .i64 1), .lit (.int .i64 1), .lit (.int .i64 0)], .agg [.lit (.string [71, 69, 84, 83, 69, 84]), .lit (.int .i64 3), .lit (.bool true), .lit (.int .i64 1), .lit (.int .i64 1), .lit (.int .i64 1), .lit (.int .i64 0)], .agg [.lit (.string [73, 78, 67, 82]), .lit (.int .i64 2), .lit (.bool true), .lit (.int .i64 1), .lit (.int .i64 1), .lit (.int .i64 1), .lit (.int .i64 0)], .agg [.lit (.string [73, 78, 67, 82, 66, 89]), .lit (.int .i64 3), .lit (.bool true), .lit (.int .i64 1), .lit (.int .i64 1), .lit (.int .i64 1), .lit (.int .i64 0)], .agg [.lit (.string [77, 71, 69, 84]), .lit (.int .i64 (-2)), .lit (.bool false), .lit (.int .i64 1), .lit (.int .i64 (-1)), .lit (.int .i64 1), .lit (.int .i64 0)], .agg [.lit (.string [77, 83, 69, 84]), .lit (.int .i64 (-3)), .lit (.bool true), .lit (.int .i64 1), .lit (.int .i64 (-1)), .lit (.int .i64 2), .lit (.int .i64 0)], .agg [.lit (.string [77, 83, 69, 84, 78, 88]), .lit (.int .i64 (-3)), .lit (.bool true), .lit (.int .i64 1), .lit (.int .i64 (-1)), .lit (.int .i64 2), .lit (.int .i64 0)], .agg [.lit (.string [80, 83, 69, 84, 69, 88]), .lit (.int .i64 4), .lit (.bool true), .lit (.int .i64 1), .lit (.int .i64 1), .lit (.int .i64 1), .lit (.int .i64 0)], .agg [.lit (.string [83, 69, 84]), .lit (.int .i64 (-3)), .lit (.bool true), .lit (.int .i64 1), .lit (.int .i64 1), .lit (.int .i64 1), .lit (.int .i64 0)], .agg [.lit (.string [83, 69, 84, 66, 73, 84]), .lit (.int .i64 4), .lit (.bool true), .lit (.int .i64 1), .lit (.int .i64 1), .lit (.int .i64 1), .lit (.int .i64 0)], .agg [.lit (.string [83, 69, 84, 69, 88]), .lit (.int .i64 4), .lit (.bool true), .lit (.int .i64 1), .lit (.int .i64 1), .lit (.int .i64 1), .lit (.int .i64 0)], .agg [.lit (.string [83, 69, 84, 78, 88]), .lit (.int .i64 3), .lit (.bool true), .lit (.int .i64 1), .lit (.int .i64 1), .lit (.int .i64 1), .lit (.int .i64 0)], .agg [.lit (.string [83, 69, 84, 82, 65, 78, 71, 69]), .lit (.int .i64 4), .lit (.bool true), .lit (.int .i64 1), .lit (.int .i64 1), .lit (.int .i64 1), .lit (.int .i64 0)], .agg [.lit (.string [83, 84, 82, 76, 69, 78]), .lit (.int .i64 2), .lit (.bool false), .lit (.int .i64 1), .lit (.int .i64 1), .lit (.int .i64 1), .lit (.int .i64 0)]]
def laid_larder_rows_commands {H : Type} : DataW H := .agg [.agg [.lit (.string [76, 73, 78, 68, 69, 88]), .lit (.int .i64 3), .lit (.bool false), .lit (.int .i64 1), .lit (.int .i64 1), .lit (.int .i64 1), .lit (.int .i64 0)], .agg [.lit (.string [76, 73, 78, 83, 69, 82, 84]), .lit (.int .i64 5), .lit (.bool true), .lit (.int .i64 1), .lit (.int .i64 1), .lit (.int .i64 1), .lit (.int .i64 0)], .agg [.lit (.string [76, 76, 69, 78]), .lit (.int .i64 2), .lit (.bool false), .lit (.int .i64 1), .lit (.int .i64 1), .lit (.int .i64 1), .lit (.int .i64 0)], .agg [.lit (.string [76, 77, 79, 86, 69]), .lit (.int .i64 5), .lit (.bool true), .lit (.int .i64 1), .lit (.int .i64 2), .lit (.int .i64 1), .lit (.int .i64 0)], .agg [.lit (.string [76, 77, 80, 79, 80]), .lit (.int .i64 (-4)), .lit (.bool true), .lit (.int .i64 0), .lit (.int .i64 0), .lit (.int .i64 0), .lit (.int .i64 1)], .agg [.lit (.string [76, 80, 79, 80]), .lit (.int .i64 (-2)), .lit (.bool true), .lit (.int .i64 1), .lit (.int .i64 1), .lit (.int .i64 1), .lit (.int .i64 0)], .agg [.lit (.string [76, 80, 79, 83]), .lit (.int .i64 (-3)), .lit (.bool false), .lit (.int .i64 1), .lit (.int .i64 1), .lit (.int .i64 1), .lit (.int .i64 0)], .agg [.lit (.string [76, 80, 85, 83, 72]), .lit (.int .i64 (-3)), .lit (.bool true), .lit (.int .i64 1), .lit (.int .i64 1), .lit (.int .i64 1), .lit (.int .i64 0)], .agg [.lit (.string [76, 80, 85, 83, 72, 88]), .lit (.int .i64 (-3)), .lit (.bool true), .lit (.int .i64 1), .lit (.int .i64 1), .lit (.int .i64 1), .lit (.int .i64 0)], .agg [.lit (.string [76, 82, 65, 78, 71, 69]), .lit (.int .i64 4), .lit (.bool false), .lit (.int .i64 1), .lit (.int .i64 1), .lit (.int .i64 1), .lit (.int .i64 0)], .agg [.lit (.string [76, 82, 69, 77]), .lit (.int .i64 4), .lit (.bool true), .lit (.int .i64 1), .lit (.int .i64 1), .lit (.int .i64 1), .lit (.int .i64 0)], .agg [.lit (.string [76, 83, 69, 84]), .lit (.int .i64 4), .lit (.bool true), .lit (.int .i64 1), .lit (.int .i64 1), .lit (.int .i64 1), .lit (.int .i64 0)], .agg [.lit (.string [76, 84, 82, 73, 77]), .lit (.int .i64 4), .lit (.bool true), .lit (.int .i64 1), .lit (.int .i64 1), .lit (.int .i64 1), .lit (.int .i64 0)], .agg [.lit (.string [82, 80, 79, 80]), .lit (.int .i64 (-2)), .lit (.bool true), .lit (.int .i64 1), .lit (.int .i64 1), .lit (.int .i64 1), .lit (.int .i64 0)], .agg [.lit (.string [82, 80, 79, 80, 76, 80, 85, 83, 72]), .lit (.int .i64 3), .lit (.bool true), .lit (.int .i64 1), .lit (.int .i64 2), .lit (.int .i64 1), .lit (.int .i64 0)], .agg [.lit (.string [82, 80, 85, 83, 72]), .lit (.int .i64 (-3)), .lit (.bool true), .lit (.int .i64 1), .lit (.int .i64 1), .lit (.int .i64 1), .lit (.int .i64 0)], .agg [.lit (.string [82, 80, 85, 83, 72, 88]), .lit (.int .i64 (-3)), .lit (.bool true), .lit (.int .i64 1), .lit (.int .i64 1), .lit (.int .i64 1), .lit (.int .i64 0)]]
def laid_larder_nest_commands {H : Type} : DataW H := .agg [.agg [.lit (.string [72, 68, 69, 76]), .lit (.int .i64 (-3)), .lit (.bool true), .lit (.int .i64 1), .lit (.int .i64 1), .lit (.int .i64 1), .lit (.int .i64 0)], .agg [.lit (.string [72, 69, 88, 73, 83, 84, 83]), .lit (.int .i64 3), .lit (.bool false), .lit (.int .i64 1), .lit (.int .i64 1), .lit (.int .i64 1), .lit (.int .i64 0)], .agg [.lit (.string [72, 71, 69, 84]), .lit (.int .i64 3), .lit (.bool false), .lit (.int .i64 1), .lit (.int .i64 1), .lit (.int .i64 1), .lit (.int .i64 0)], .agg [.lit (.string [72, 71, 69, 84, 65, 76, 76]), .lit (.int .i64 2), .lit (.bool false), .lit (.int .i64 1), .lit (.int .i64 1), .lit (.int .i64 1), .lit (.int .i64 0)], .agg [.lit (.string [72, 73, 78, 67, 82, 66, 89]), .lit (.int .i64 4), .lit (.bool true), .lit (.int .i64 1), .lit (.int .i64 1), .lit (.int .i64 1), .lit (.int .i64 0)], .agg [.lit (.string [72, 75, 69, 89, 83]), .lit (.int .i64 2), .lit (.bool false), .lit (.int .i64 1), .lit (.int .i64 1), .lit (.int .i64 1), .lit (.int .i64 0)], .agg [.lit (.string [72, 76, 69, 78]), .lit (.int .i64 2), .lit (.bool false), .lit (.int .i64 1), .lit (.int .i64 1), .lit (.int .i64 1), .lit (.int .i64 0)], .agg [.lit (.string [72, 77, 71, 69, 84]), .lit (.int .i64 (-3)), .lit (.bool false), .lit (.int .i64 1), .lit (.int .i64 1), .lit (.int .i64 1), .lit (.int .i64 0)], .agg [.lit (.string [72, 83, 67, 65, 78]), .lit (.int .i64 (-3)), .lit (.bool false), .lit (.int .i64 1), .lit (.int .i64 1), .lit (.int .i64 1), .lit (.int .i64 0)], .agg [.lit (.string [72, 83, 69, 84]), .lit (.int .i64 (-4)), .lit (.bool true), .lit (.int .i64 1), .lit (.int .i64 1), .lit (.int .i64 1), .lit (.int .i64 0)], .agg [.lit (.string [72, 83, 69, 84, 78, 88]), .lit (.int .i64 4), .lit (.bool true), .lit (.int .i64 1), .lit (.int .i64 1), .lit (.int .i64 1), .lit (.int .i64 0)], .agg [.lit (.string [72, 83, 84, 82, 76, 69, 78]), .lit (.int .i64 3), .lit (.bool false), .lit (.int .i64 1), .lit (.int .i64 1), .lit (.int .i64 1), .lit (.int .i64 0)], .agg [.lit (.string [72, 86, 65, 76, 83]), .lit (.int .i64 2), .lit (.bool false), .lit (.int .i64 1), .lit (.int .i64 1), .lit (.int .i64 1), .lit (.int .i64 0)], .agg [.lit (.string [83, 65, 68, 68]), .lit (.int .i64 (-3)), .lit (.bool true), .lit (.int .i64 1), .lit (.int .i64 1), .lit (.int .i64 1), .lit (.int .i64 0)], .agg [.lit (.string [83, 67, 65, 82, 68]), .lit (.int .i64 2), .lit (.bool false), .lit (.int .i64 1), .lit (.int .i64 1), .lit (.int .i64 1), .lit (.int .i64 0)], .agg [.lit (.string [83, 68, 73, 70, 70]), .lit (.int .i64 (-2)), .lit (.bool false), .lit (.int .i64 1), .lit (.int .i64 (-1)), .lit (.int .i64 1), .lit (.int .i64 0)], .agg [.lit (.string [83, 68, 73, 70, 70, 83, 84, 79, 82, 69]), .lit (.int .i64 (-3)), .lit (.bool true), .lit (.int .i64 1), .lit (.int .i64 (-1)), .lit (.int .i64 1), .lit (.int .i64 0)], .agg [.lit (.string [83, 73, 78, 84, 69, 82]), .lit (.int .i64 (-2)), .lit (.bool false), .lit (.int .i64 1), .lit (.int .i64 (-1)), .lit (.int .i64 1), .lit (.int .i64 0)], .agg [.lit (.string [83, 73, 78, 84, 69, 82, 67, 65, 82, 68]), .lit (.int .i64 (-3)), .lit (.bool false), .lit (.int .i64 0), .lit (.int .i64 0), .lit (.int .i64 0), .lit (.int .i64 1)], .agg [.lit (.string [83, 73, 78, 84, 69, 82, 83, 84, 79, 82, 69]), .lit (.int .i64 (-3)), .lit (.bool true), .lit (.int .i64 1), .lit (.int .i64 (-1)), .lit (.int .i64 1), .lit (.int .i64 0)], .agg [.lit (.string [83, 73, 83, 77, 69, 77, 66, 69, 82]), .lit (.int .i64 3), .lit (.bool false), .lit (.int .i64 1), .lit (.int .i64 1), .lit (.int .i64 1), .lit (.int .i64 0)], .agg [.lit (.string [83, 77, 69, 77, 66, 69, 82, 83]), .lit (.int .i64 2), .lit (.bool false), .lit (.int .i64 1), .lit (.int .i64 1), .lit (.int .i64 1), .lit (.int .i64 0)], .agg [.lit (.string [83, 77, 73, 83, 77, 69, 77, 66, 69, 82]), .lit (.int .i64 (-3)), .lit (.bool false), .lit (.int .i64 1), .lit (.int .i64 1), .lit (.int .i64 1), .lit (.int .i64 0)], .agg [.lit (.string [83, 77, 79, 86, 69]), .lit (.int .i64 4), .lit (.bool true), .lit (.int .i64 1), .lit (.int .i64 2), .lit (.int .i64 1), .lit (.int .i64 0)], .agg [.lit (.string [83, 80, 79, 80]), .lit (.int .i64 (-2)), .lit (.bool true), .lit (.int .i64 1), .lit (.int .i64 1), .lit (.int .i64 1), .lit (.int .i64 0)], .agg [.lit (.string [83, 82, 69, 77]), .lit (.int .i64 (-3)), .lit (.bool true), .lit (.int .i64 1), .lit (.int .i64 1), .lit (.int .i64 1), .lit (.int .i64 0)], .agg [.lit (.string [83, 83, 67, 65, 78]), .lit (.int .i64 (-3)), .lit (.bool false), .lit (.int .i64 1), .lit (.int .i64 1), .lit (.int .i64 1), .lit (.int .i64 0)], .agg [.lit (.string [83, 85, 78, 73, 79, 78]), .lit (.int .i64 (-2)), .lit (.bool false), .lit (.int .i64 1), .lit (.int .i64 (-1)), .lit (.int .i64 1), .lit (.int .i64 0)], .agg [.lit (.string [83, 85, 78, 73, 79, 78, 83, 84, 79, 82, 69]), .lit (.int .i64 (-3)), .lit (.bool true), .lit (.int .i64 1), .lit (.int .i64 (-1)), .lit (.int .i64 1), .lit (.int .i64 0)]]

/-- 'larderlaw11.TextRows': WHATEVER THE INPUT: true; the input reads as it did. -/
def textRowsSpec : ChangeSpec := { name := "textRows", fn := fun _ => fun
  | [] => { results := [.lit (.bool true)], args := [] }
  | _ => none }
def textRowsRow : OpenClaim := { program := "ytdhkhjfjjbdkgaadoor", sum := "564cc59f89571731b6d4780e71b65209f748435550b083e02cdac740a2fb35f5", func := "larder/larderlaw11.TextRows", spec := "textRows", named := ["larder/text.rows"], apart := false, laid := [("larder/text.rows", laid_larder_text_rows)] }
def TextRowsSaid : Prop := textRowsRow.holds Tryd.pinned (OpenSpec.ofChange textRowsSpec)

/-- ITS FALSE NEIGHBOUR: 'it returns false'. Refute it at one input. -/
def textRowsWrong : ChangeSpec := { name := "textRows", fn := fun _ => fun
  | [] => { results := [.lit (.bool false)], args := [] }
  | _ => none }
def TextRowsWrongFalsely : Prop := textRowsRow.holds Tryd.pinned (OpenSpec.ofChange textRowsWrong)

/-- 'larderlaw12.RowsTable': WHATEVER THE INPUT: true; the input reads as it did. -/
def rowsTableSpec : ChangeSpec := { name := "rowsTable", fn := fun _ => fun
  | [d] => { results := [.lit (.bool true)], args := [d] }
  | _ => none }
def rowsTableRow : OpenClaim := { program := "ytdhkhjfjjbdkgaadoor", sum := "564cc59f89571731b6d4780e71b65209f748435550b083e02cdac740a2fb35f5", func := "larder/larderlaw12.RowsTable", spec := "rowsTable", unfollowed := true, recurses := true, named := ["larder/rows.commands"], apart := false, laid := [("larder/rows.commands", laid_larder_rows_commands)] }
def RowsTableSaid : Prop := rowsTableRow.holds Tryd.pinned (OpenSpec.ofChange rowsTableSpec)

/-- ITS FALSE NEIGHBOUR: 'it returns false'. Refute it at one input. -/
def rowsTableWrong : ChangeSpec := { name := "rowsTable", fn := fun _ => fun
  | [d] => { results := [.lit (.bool false)], args := [d] }
  | _ => none }
def RowsTableWrongFalsely : Prop := rowsTableRow.holds Tryd.pinned (OpenSpec.ofChange rowsTableWrong)

/-- 'larderlaw13.NestTable': WHATEVER THE INPUT: true; the input reads as it did. -/
def nestTableSpec : ChangeSpec := { name := "nestTable", fn := fun _ => fun
  | [d] => { results := [.lit (.bool true)], args := [d] }
  | _ => none }
def nestTableRow : OpenClaim := { program := "ytdhkhjfjjbdkgaadoor", sum := "564cc59f89571731b6d4780e71b65209f748435550b083e02cdac740a2fb35f5", func := "larder/larderlaw13.NestTable", spec := "nestTable", unfollowed := true, recurses := true, named := ["larder/nest.commands"], apart := false, laid := [("larder/nest.commands", laid_larder_nest_commands)] }
def NestTableSaid : Prop := nestTableRow.holds Tryd.pinned (OpenSpec.ofChange nestTableSpec)

/-- ITS FALSE NEIGHBOUR: 'it returns false'. Refute it at one input. -/
def nestTableWrong : ChangeSpec := { name := "nestTable", fn := fun _ => fun
  | [d] => { results := [.lit (.bool false)], args := [d] }
  | _ => none }
def NestTableWrongFalsely : Prop := nestTableRow.holds Tryd.pinned (OpenSpec.ofChange nestTableWrong)

/- THE SECOND FORM. 'bulk': how many values and letters a reading holds, each counted each time it is reached (what is shared counts as often as it is met; a slice's spare places count too). A statement '..UptoSaid' is the law's where the arguments, and the package variables that the reading takes, are together of bulk at most 1048576: NARROWER than '..Said'. Prove '..Said' where nothing that the law and all that it calls make is longer than what came in: it says more and counts as full. Else prove '..UptoSaid'. A law counts once. -/
mutual
def uptoBulk {H : Type} : DataW H → Nat
  | .lit (.string bytes) => bytes.length + 1
  | .lit _ => 1
  | .nil => 1
  | .ptr d => uptoBulk d + 1
  | .slice elems spare => uptoBulkAll elems + uptoBulkAll spare + 1
  | .agg parts => uptoBulkAll parts + 1
  | .iface _ d => uptoBulk d + 1
  | .map entries => uptoBulkEntries entries + 1
  | .held _ => 1
def uptoBulkAll {H : Type} : List (DataW H) → Nat
  | [] => 0
  | d :: r => uptoBulk d + uptoBulkAll r
def uptoBulkEntries {H : Type} : List (Lit × DataW H) → Nat
  | [] => 0
  | x :: r => uptoBulkEntry x + uptoBulkEntries r
def uptoBulkEntry {H : Type} : Lit × DataW H → Nat
  | (.string bytes, d) => bytes.length + uptoBulk d + 1
  | (_, d) => uptoBulk d + 1
 end
def uptoSmall : (H : Type) → List (DataW H) → Bool := fun _ ds => decide (uptoBulkAll ds ≤ 1048576)
def OpenSpec.upto (s : _root_.Go.ChangeSpec) : _root_.Go.OpenSpec := { _root_.Go.OpenSpec.ofChange s with cond := some uptoSmall }

/-- 'larderlaw11.TextRows', WHERE WHAT IT READS IS OF BULK AT MOST 1048576: true; the input reads as it did. -/
def textRowsUptoRow : OpenClaim := { program := "ytdhkhjfjjbdkgaadoor", sum := "564cc59f89571731b6d4780e71b65209f748435550b083e02cdac740a2fb35f5", func := "larder/larderlaw11.TextRows", spec := "textRows", named := ["larder/text.rows"], apart := false, laid := [("larder/text.rows", laid_larder_text_rows)], narrowed := true }
def TextRowsUptoSaid : Prop := textRowsUptoRow.holds Tryd.pinned (OpenSpec.upto textRowsSpec)

/-- 'larderlaw12.RowsTable', WHERE WHAT IT READS IS OF BULK AT MOST 1048576: true; the input reads as it did. -/
def rowsTableUptoRow : OpenClaim := { program := "ytdhkhjfjjbdkgaadoor", sum := "564cc59f89571731b6d4780e71b65209f748435550b083e02cdac740a2fb35f5", func := "larder/larderlaw12.RowsTable", spec := "rowsTable", unfollowed := true, recurses := true, named := ["larder/rows.commands"], apart := false, laid := [("larder/rows.commands", laid_larder_rows_commands)], narrowed := true }
def RowsTableUptoSaid : Prop := rowsTableUptoRow.holds Tryd.pinned (OpenSpec.upto rowsTableSpec)

/-- 'larderlaw13.NestTable', WHERE WHAT IT READS IS OF BULK AT MOST 1048576: true; the input reads as it did. -/
def nestTableUptoRow : OpenClaim := { program := "ytdhkhjfjjbdkgaadoor", sum := "564cc59f89571731b6d4780e71b65209f748435550b083e02cdac740a2fb35f5", func := "larder/larderlaw13.NestTable", spec := "nestTable", unfollowed := true, recurses := true, named := ["larder/nest.commands"], apart := false, laid := [("larder/nest.commands", laid_larder_nest_commands)], narrowed := true }
def NestTableUptoSaid : Prop := nestTableUptoRow.holds Tryd.pinned (OpenSpec.upto nestTableSpec)

end Rows
end Go.Proofs.YtdhkhjfjjbdkgaaDoor
