/- RecordLines, where what it reads is of bulk at most 1048576: every Line: the record to the byte, or the refusal; what is handed in stays as it is, and is not kept. No conditions. -/
import Derived.Test.YtdhkhjfjjbdkgaaRows
import Derived.Test.YtdhkhjfjjbdkgaaInp
import Derived.WalkKit
import Derived.ProofKit
import Derived.OpenShut
import Derived.ShutString
import Derived.ChangeOld
import Derived.Below
import Derived.JoinedCond
import Derived.ReadAgain
namespace Go.Proofs.Ytdhkhjfjjbdkgaa.recordLines
open Go.ChangeShapes Go.WideShapes Go.ChangeAt Go.RowKit
open Go.Proofs.Ytdhkhjfjjbdkgaa.Rec
set_option linter.unusedVariables false
theorem own : ownKnob Try.prog.godebug = none := by kernel_rfl
theorem laidOut : laidOutB Try.prog = true := by kernel_rfl
theorem walk (A0 : Option Addr) (c0 : Nat) (L : List S33) (w : World) (hr : Go.Proofs.YtdhkhjfjjbdkgaaW.PrintWords.Kd.C k33 w A0 L.length L) (hc : L.length ≤ c0) (hg : ∀ e ∈ L, g33 e) (hb : b29 L ≤ 1048576) :
    Calls Try.prog 7 #[.slice A0 L.length c0] w fun e w' => e = .returned (.bool true) ∧ Below w.heap.size w w' := by
  obtain ⟨k, hk⟩ := entries_line L (fun e he => ent_ok (hg e he) (by have := b29_mem he; omega))
  exact lines_walk k otherOf A0 c0 L w hr hc (by have := b29_len L; omega) hk
set_option maxRecDepth 100000 in
theorem lifted (os : Os) (started : os.Started) (H : Type) (enc : TypeId × Value → H) (F0 : Stop.Interp) :
    ReturnsInHanded {} Try.checked os 7 .any ((Rows.OpenSpec.upto Rows.recordLinesSpec).pre6 enc Try.prog Try.f7 Rows.recordLinesUptoRow.domain false) (((Rows.OpenSpec.upto Rows.recordLinesSpec).at F0).post enc Try.prog Try.f7 false true false false) := by
  refine returnsInHanded_of_cond (C := Try.checked) (s := Rows.OpenSpec.upto Rows.recordLinesSpec) (k := Rows.uptoSmall) rfl own started (by kernel_rfl) Try.func7
    (OpenSpec.witness (enc := enc) (C := Try.checked) (s := Rows.OpenSpec.upto Rows.recordLinesSpec) (k := Rows.uptoSmall) rfl false ⟨#[], #[.slice none 0 0], []⟩ 8 (by kernel_rfl) (by kernel_rfl) (by kernel_rfl)
      (x := ([.nil], [], [])) (by kernel_rfl) (by kernel_rfl) (by kernel_rfl)) ?_
  intro W base args ds gs before hval0 hW _ hk _
  have hval : ∀ (j : Nat) t v, Try.f7.params[j]? = some t → args[j]? = some v → Value.okWide Try.prog W .any base t v := hval0
  have hW' := hW
  obtain ⟨p, q, hA0, hV, rfl, hfz, hnd⟩ := hW
  have hA : DataW.TrodAll enc Try.prog W 0 (fun _ => true) true Try.f7.params.toList args.toList ds p := hA0
  rw [Try.params7] at hA hval
  obtain ⟨v0, vs0, d0, ds0, p0, q0, hargs, rfl, rfl, h0, r0⟩ := trodAll_cons hA
  obtain ⟨rfl, rfl, rfl⟩ := trodAll_nil r0
  obtain rfl : args = #[v0] := by cases args; simp_all
  obtain ⟨rfl, rfl⟩ := trodVars_none hV
  obtain ⟨a0, len0, cap0, rfl⟩ := okWide_slice Try.underlying29 (hval 0 29 v0 rfl rfl)
  have k0 := h0
  have lt0 : ∀ x ∈ p0, x.block < W.heap.size := by obtain ⟨m, hm⟩ := k0; exact DataW.trod_lt m _ _ _ hm
  obtain ⟨fuel, hf⟩ := h0
  obtain ⟨L, ⟨A, c, e, hlc, hC⟩, hg, hb⟩ := opens_29 H enc W _ _ _ _ _ _ _ hf
  have hbulk : Rows.uptoBulk d0 ≤ 1048576 := by
    simp only [Rows.uptoSmall, List.append_nil, decide_eq_true_eq, Rows.uptoBulkAll] at hk
    omega
  simp [Value.cells] at e
  obtain ⟨rfl, rfl, rfl⟩ := e
  clear hA0 hval0 hf
  refine (walk a0 cap0 L W hC hlc hg (Nat.le_trans hb hbulk)).mono fun e W' ⟨he, bel⟩ => ?_
  subst he
  exact ⟨_, rfl, _, _, _, [], _, [], hW', trodAll_mk1 (shut_bool Try.underlying4 _), (trodAll_cons_mk (Below.trod laidOut (by kernel_rfl) (of_decide_eq_true (by kernel_rfl)) k0 bel lt0) trodAll_mk0), rfl, bel.frame _, fun h => by cases h⟩
theorem over : Rows.recordLinesUptoRow.holds Try.pinned (Rows.OpenSpec.upto Rows.recordLinesSpec) :=
  OpenClaim.holds_of_cond 7 Try.f7 rfl rfl rfl rfl rfl rfl rfl ⟨rfl, rfl, rfl, rfl, rfl⟩ rfl rfl rfl rfl rfl (by kernel_rfl) Try.func7 (by kernel_rfl)
    (of_decide_eq_true (by kernel_rfl)) (by unfold Func.isWrapper; first | (rw [if_pos (by decide +kernel)]; kernel_rfl) | (rw [if_neg (by decide +kernel)]; exact ⟨rfl, rfl⟩))
    (fun os started H enc _ F0 => lifted os started H enc F0)
theorem proved : Rows.RecordLinesUptoSaid := over
#print axioms proved
end Go.Proofs.Ytdhkhjfjjbdkgaa.recordLines
namespace Go.Proofs.Ytdhkhjfjjbdkgaa
/-- The row, under a short name, for the claim. -/
theorem recordLinesUpto_holds : Rows.RecordLinesUptoSaid := recordLines.proved
end Go.Proofs.Ytdhkhjfjjbdkgaa
