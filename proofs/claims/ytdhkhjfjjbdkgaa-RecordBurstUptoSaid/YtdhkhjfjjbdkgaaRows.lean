/-
  No cell of these rows narrows 'for every input' (looked for: loops, veiled, ifaces, maps, wideKeys, modest, calm, conditions, laid).
  DERIVED. THE GIVEN ROWS OF THIS SEAT. 8 by the template 'for every input the law returns true; each argument reads behind the call as it read before'; 0 by the template 'total and deterministic' (their statements: YtdhkhjfjjbdkgaaTotals.lean).
  GIVEN WITH THE SEED: the statements are not yours to turn. If you find one false, say at which input.
  Laid BY PROGRAM, IN A SANDBOX (cutbox-rows.mjs): the forced cells as the released guide's own fill.sh prints them over the translation 3c3c5ebcbf2174ba… (all of the seat's roots in one cut). By AI agents, Wed Nov 11 2026. No macro, syntax, notation, axiom, sorry.
-/
import Derived.Test.YtdhkhjfjjbdkgaaChecked
import GoSem.Claim
import GoSem.ClaimJoined
import GoSem.ClaimMapViews
import Derived.JoinedTies
import Derived.KernelRfl
namespace Go.Proofs.Ytdhkhjfjjbdkgaa
/- THE CELL 'sum', in the pinned program and in every row, IS THE sha256 OF THE DUMP (.gsa) THAT YtdhkhjfjjbdkgaaProg.lean LOADS. Nothing in Lean hashes anything: it is a label: what it is worth is what the hold of that sum in a sandbox is worth. -/
noncomputable def Try.pinned : Pinned := { name := "ytdhkhjfjjbdkgaa", sum := "3c3c5ebcbf2174ba191252816487cd64c6f6a58f2f54a2d0b22a97aaced671b4", checked := Try.checked }
namespace Rows
def none {H : Type} : Left H := { results := [], args := [] }

/-- 'larderlaw0.ApiErrors': WHATEVER THE INPUT: true; the input reads as it did. -/
def apiErrorsSpec : ChangeSpec := { name := "apiErrors", fn := fun _ => fun
  | [] => { results := [.lit (.bool true)], args := [] }
  | _ => none }
def apiErrorsRow : OpenClaim := { program := "ytdhkhjfjjbdkgaa", sum := "3c3c5ebcbf2174ba191252816487cd64c6f6a58f2f54a2d0b22a97aaced671b4", func := "larder/larderlaw0.ApiErrors", spec := "apiErrors", apart := false }
def ApiErrorsSaid : Prop := apiErrorsRow.holds Try.pinned (OpenSpec.ofChange apiErrorsSpec)

/-- ITS FALSE NEIGHBOUR: 'it returns false'. Refute it at one input. -/
def apiErrorsWrong : ChangeSpec := { name := "apiErrors", fn := fun _ => fun
  | [] => { results := [.lit (.bool false)], args := [] }
  | _ => none }
def ApiErrorsWrongFalsely : Prop := apiErrorsRow.holds Try.pinned (OpenSpec.ofChange apiErrorsWrong)

/-- 'larderlaw0.ApiLimits': WHATEVER THE INPUT: true; the input reads as it did. -/
def apiLimitsSpec : ChangeSpec := { name := "apiLimits", fn := fun _ => fun
  | [] => { results := [.lit (.bool true)], args := [] }
  | _ => none }
def apiLimitsRow : OpenClaim := { program := "ytdhkhjfjjbdkgaa", sum := "3c3c5ebcbf2174ba191252816487cd64c6f6a58f2f54a2d0b22a97aaced671b4", func := "larder/larderlaw0.ApiLimits", spec := "apiLimits", apart := false }
def ApiLimitsSaid : Prop := apiLimitsRow.holds Try.pinned (OpenSpec.ofChange apiLimitsSpec)

/-- ITS FALSE NEIGHBOUR: 'it returns false'. Refute it at one input. -/
def apiLimitsWrong : ChangeSpec := { name := "apiLimits", fn := fun _ => fun
  | [] => { results := [.lit (.bool false)], args := [] }
  | _ => none }
def ApiLimitsWrongFalsely : Prop := apiLimitsRow.holds Try.pinned (OpenSpec.ofChange apiLimitsWrong)

/-- 'larderlaw0.ApiKinds': WHATEVER THE INPUT: true; the input reads as it did. -/
def apiKindsSpec : ChangeSpec := { name := "apiKinds", fn := fun _ => fun
  | [] => { results := [.lit (.bool true)], args := [] }
  | _ => none }
def apiKindsRow : OpenClaim := { program := "ytdhkhjfjjbdkgaa", sum := "3c3c5ebcbf2174ba191252816487cd64c6f6a58f2f54a2d0b22a97aaced671b4", func := "larder/larderlaw0.ApiKinds", spec := "apiKinds", apart := false }
def ApiKindsSaid : Prop := apiKindsRow.holds Try.pinned (OpenSpec.ofChange apiKindsSpec)

/-- ITS FALSE NEIGHBOUR: 'it returns false'. Refute it at one input. -/
def apiKindsWrong : ChangeSpec := { name := "apiKinds", fn := fun _ => fun
  | [] => { results := [.lit (.bool false)], args := [] }
  | _ => none }
def ApiKindsWrongFalsely : Prop := apiKindsRow.holds Try.pinned (OpenSpec.ofChange apiKindsWrong)

/-- 'larderlaw0.ApiTexts': WHATEVER THE INPUT: true; the input reads as it did. -/
def apiTextsSpec : ChangeSpec := { name := "apiTexts", fn := fun _ => fun
  | [] => { results := [.lit (.bool true)], args := [] }
  | _ => none }
def apiTextsRow : OpenClaim := { program := "ytdhkhjfjjbdkgaa", sum := "3c3c5ebcbf2174ba191252816487cd64c6f6a58f2f54a2d0b22a97aaced671b4", func := "larder/larderlaw0.ApiTexts", spec := "apiTexts", apart := false }
def ApiTextsSaid : Prop := apiTextsRow.holds Try.pinned (OpenSpec.ofChange apiTextsSpec)

/-- ITS FALSE NEIGHBOUR: 'it returns false'. Refute it at one input. -/
def apiTextsWrong : ChangeSpec := { name := "apiTexts", fn := fun _ => fun
  | [] => { results := [.lit (.bool false)], args := [] }
  | _ => none }
def ApiTextsWrongFalsely : Prop := apiTextsRow.holds Try.pinned (OpenSpec.ofChange apiTextsWrong)

/-- 'larderlaw16.RecordLines': WHATEVER THE INPUT: true; the input reads as it did. -/
def recordLinesSpec : ChangeSpec := { name := "recordLines", fn := fun _ => fun
  | [d] => { results := [.lit (.bool true)], args := [d] }
  | _ => none }
def recordLinesRow : OpenClaim := { program := "ytdhkhjfjjbdkgaa", sum := "3c3c5ebcbf2174ba191252816487cd64c6f6a58f2f54a2d0b22a97aaced671b4", func := "larder/larderlaw16.RecordLines", spec := "recordLines", apart := false }
def RecordLinesSaid : Prop := recordLinesRow.holds Try.pinned (OpenSpec.ofChange recordLinesSpec)

/-- ITS FALSE NEIGHBOUR: 'it returns false'. Refute it at one input. -/
def recordLinesWrong : ChangeSpec := { name := "recordLines", fn := fun _ => fun
  | [d] => { results := [.lit (.bool false)], args := [d] }
  | _ => none }
def RecordLinesWrongFalsely : Prop := recordLinesRow.holds Try.pinned (OpenSpec.ofChange recordLinesWrong)

/-- 'larderlaw16.RecordReads': WHATEVER THE INPUT: true; the input reads as it did. -/
def recordReadsSpec : ChangeSpec := { name := "recordReads", fn := fun _ => fun
  | [d] => { results := [.lit (.bool true)], args := [d] }
  | _ => none }
def recordReadsRow : OpenClaim := { program := "ytdhkhjfjjbdkgaa", sum := "3c3c5ebcbf2174ba191252816487cd64c6f6a58f2f54a2d0b22a97aaced671b4", func := "larder/larderlaw16.RecordReads", spec := "recordReads", apart := false }
def RecordReadsSaid : Prop := recordReadsRow.holds Try.pinned (OpenSpec.ofChange recordReadsSpec)

/-- ITS FALSE NEIGHBOUR: 'it returns false'. Refute it at one input. -/
def recordReadsWrong : ChangeSpec := { name := "recordReads", fn := fun _ => fun
  | [d] => { results := [.lit (.bool false)], args := [d] }
  | _ => none }
def RecordReadsWrongFalsely : Prop := recordReadsRow.holds Try.pinned (OpenSpec.ofChange recordReadsWrong)

/-- 'larderlaw16.RecordTorn': WHATEVER THE INPUT: true; the input reads as it did. -/
def recordTornSpec : ChangeSpec := { name := "recordTorn", fn := fun _ => fun
  | [d] => { results := [.lit (.bool true)], args := [d] }
  | _ => none }
def recordTornRow : OpenClaim := { program := "ytdhkhjfjjbdkgaa", sum := "3c3c5ebcbf2174ba191252816487cd64c6f6a58f2f54a2d0b22a97aaced671b4", func := "larder/larderlaw16.RecordTorn", spec := "recordTorn", apart := false }
def RecordTornSaid : Prop := recordTornRow.holds Try.pinned (OpenSpec.ofChange recordTornSpec)

/-- ITS FALSE NEIGHBOUR: 'it returns false'. Refute it at one input. -/
def recordTornWrong : ChangeSpec := { name := "recordTorn", fn := fun _ => fun
  | [d] => { results := [.lit (.bool false)], args := [d] }
  | _ => none }
def RecordTornWrongFalsely : Prop := recordTornRow.holds Try.pinned (OpenSpec.ofChange recordTornWrong)

/-- 'larderlaw16.RecordBurst': WHATEVER THE INPUT: true; the input reads as it did. -/
def recordBurstSpec : ChangeSpec := { name := "recordBurst", fn := fun _ => fun
  | [d] => { results := [.lit (.bool true)], args := [d] }
  | _ => none }
def recordBurstRow : OpenClaim := { program := "ytdhkhjfjjbdkgaa", sum := "3c3c5ebcbf2174ba191252816487cd64c6f6a58f2f54a2d0b22a97aaced671b4", func := "larder/larderlaw16.RecordBurst", spec := "recordBurst", apart := false }
def RecordBurstSaid : Prop := recordBurstRow.holds Try.pinned (OpenSpec.ofChange recordBurstSpec)

/-- ITS FALSE NEIGHBOUR: 'it returns false'. Refute it at one input. -/
def recordBurstWrong : ChangeSpec := { name := "recordBurst", fn := fun _ => fun
  | [d] => { results := [.lit (.bool false)], args := [d] }
  | _ => none }
def RecordBurstWrongFalsely : Prop := recordBurstRow.holds Try.pinned (OpenSpec.ofChange recordBurstWrong)

/- THE SECOND FORM. 'bulk': how many values and letters a reading holds, each counted each time it is reached (what is shared counts as often as it is met; a slice's spare places count too). A statement '..UptoSaid' is the law's where the arguments, and the package variables that the reading takes, are together of bulk at most 1048576: NARROWER than '..Said'. Prove '..Said' where nothing that the law and all that it calls make is longer than what came in: it says more and counts as full. Else prove '..UptoSaid'. A law counts once. -/
mutual
def uptoBulk {H : Type} : DataW H → Nat
  | .lit (.string bytes) => bytes.length + 1
  | .lit _ => 1
  | .nil => 1
  | .ptr d => uptoBulk d + 1
  | .slice elems spare => uptoBulkAll elems + uptoBulkAll spare + 1
  | .agg parts => uptoBulkAll parts + 1
  | .iface _ d => uptoBulk d + 1
  | .map entries => uptoBulkEntries entries + 1
  | .held _ => 1
def uptoBulkAll {H : Type} : List (DataW H) → Nat
  | [] => 0
  | d :: r => uptoBulk d + uptoBulkAll r
def uptoBulkEntries {H : Type} : List (Lit × DataW H) → Nat
  | [] => 0
  | x :: r => uptoBulkEntry x + uptoBulkEntries r
def uptoBulkEntry {H : Type} : Lit × DataW H → Nat
  | (.string bytes, d) => bytes.length + uptoBulk d + 1
  | (_, d) => uptoBulk d + 1
 end
def uptoSmall : (H : Type) → List (DataW H) → Bool := fun _ ds => decide (uptoBulkAll ds ≤ 1048576)
def OpenSpec.upto (s : _root_.Go.ChangeSpec) : _root_.Go.OpenSpec := { _root_.Go.OpenSpec.ofChange s with cond := some uptoSmall }

/-- 'larderlaw0.ApiErrors', WHERE WHAT IT READS IS OF BULK AT MOST 1048576: true; the input reads as it did. -/
def apiErrorsUptoRow : OpenClaim := { program := "ytdhkhjfjjbdkgaa", sum := "3c3c5ebcbf2174ba191252816487cd64c6f6a58f2f54a2d0b22a97aaced671b4", func := "larder/larderlaw0.ApiErrors", spec := "apiErrors", apart := false, narrowed := true }
def ApiErrorsUptoSaid : Prop := apiErrorsUptoRow.holds Try.pinned (OpenSpec.upto apiErrorsSpec)

/-- 'larderlaw0.ApiLimits', WHERE WHAT IT READS IS OF BULK AT MOST 1048576: true; the input reads as it did. -/
def apiLimitsUptoRow : OpenClaim := { program := "ytdhkhjfjjbdkgaa", sum := "3c3c5ebcbf2174ba191252816487cd64c6f6a58f2f54a2d0b22a97aaced671b4", func := "larder/larderlaw0.ApiLimits", spec := "apiLimits", apart := false, narrowed := true }
def ApiLimitsUptoSaid : Prop := apiLimitsUptoRow.holds Try.pinned (OpenSpec.upto apiLimitsSpec)

/-- 'larderlaw0.ApiKinds', WHERE WHAT IT READS IS OF BULK AT MOST 1048576: true; the input reads as it did. -/
def apiKindsUptoRow : OpenClaim := { program := "ytdhkhjfjjbdkgaa", sum := "3c3c5ebcbf2174ba191252816487cd64c6f6a58f2f54a2d0b22a97aaced671b4", func := "larder/larderlaw0.ApiKinds", spec := "apiKinds", apart := false, narrowed := true }
def ApiKindsUptoSaid : Prop := apiKindsUptoRow.holds Try.pinned (OpenSpec.upto apiKindsSpec)

/-- 'larderlaw0.ApiTexts', WHERE WHAT IT READS IS OF BULK AT MOST 1048576: true; the input reads as it did. -/
def apiTextsUptoRow : OpenClaim := { program := "ytdhkhjfjjbdkgaa", sum := "3c3c5ebcbf2174ba191252816487cd64c6f6a58f2f54a2d0b22a97aaced671b4", func := "larder/larderlaw0.ApiTexts", spec := "apiTexts", apart := false, narrowed := true }
def ApiTextsUptoSaid : Prop := apiTextsUptoRow.holds Try.pinned (OpenSpec.upto apiTextsSpec)

/-- 'larderlaw16.RecordLines', WHERE WHAT IT READS IS OF BULK AT MOST 1048576: true; the input reads as it did. -/
def recordLinesUptoRow : OpenClaim := { program := "ytdhkhjfjjbdkgaa", sum := "3c3c5ebcbf2174ba191252816487cd64c6f6a58f2f54a2d0b22a97aaced671b4", func := "larder/larderlaw16.RecordLines", spec := "recordLines", apart := false, narrowed := true }
def RecordLinesUptoSaid : Prop := recordLinesUptoRow.holds Try.pinned (OpenSpec.upto recordLinesSpec)

/-- 'larderlaw16.RecordReads', WHERE WHAT IT READS IS OF BULK AT MOST 1048576: true; the input reads as it did. -/
def recordReadsUptoRow : OpenClaim := { program := "ytdhkhjfjjbdkgaa", sum := "3c3c5ebcbf2174ba191252816487cd64c6f6a58f2f54a2d0b22a97aaced671b4", func := "larder/larderlaw16.RecordReads", spec := "recordReads", apart := false, narrowed := true }
def RecordReadsUptoSaid : Prop := recordReadsUptoRow.holds Try.pinned (OpenSpec.upto recordReadsSpec)

/-- 'larderlaw16.RecordTorn', WHERE WHAT IT READS IS OF BULK AT MOST 1048576: true; the input reads as it did. -/
def recordTornUptoRow : OpenClaim := { program := "ytdhkhjfjjbdkgaa", sum := "3c3c5ebcbf2174ba191252816487cd64c6f6a58f2f54a2d0b22a97aaced671b4", func := "larder/larderlaw16.RecordTorn", spec := "recordTorn", apart := false, narrowed := true }
def RecordTornUptoSaid : Prop := recordTornUptoRow.holds Try.pinned (OpenSpec.upto recordTornSpec)

/-- 'larderlaw16.RecordBurst', WHERE WHAT IT READS IS OF BULK AT MOST 1048576: true; the input reads as it did. -/
def recordBurstUptoRow : OpenClaim := { program := "ytdhkhjfjjbdkgaa", sum := "3c3c5ebcbf2174ba191252816487cd64c6f6a58f2f54a2d0b22a97aaced671b4", func := "larder/larderlaw16.RecordBurst", spec := "recordBurst", apart := false, narrowed := true }
def RecordBurstUptoSaid : Prop := recordBurstUptoRow.holds Try.pinned (OpenSpec.upto recordBurstSpec)

end Rows
end Go.Proofs.Ytdhkhjfjjbdkgaa
