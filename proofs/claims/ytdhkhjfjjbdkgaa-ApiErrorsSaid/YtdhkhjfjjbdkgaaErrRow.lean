/- ApiErrors: every error has the number that the document gives it: both tables are laid, and the loop over each finds every pair alike. No conditions. -/
import Derived.Test.YtdhkhjfjjbdkgaaErr
namespace Go.Proofs.Ytdhkhjfjjbdkgaa.apiErrors
open Go.ChangeShapes Go.WideShapes Go.ChangeAt Go.RowKit Go.Proofs.YtdhkhjfjjbdkgaaW.PrintWords Go.Proofs.YtdhkhjfjjbdkgaaW.PrintLast Go.Proofs.YtdhkhjfjjbdkgaaW.PrintMore Go.Proofs.Ytdhkhjfjjbdkgaa.PApiLimits
open Go.ChangeMaps (open_string shut_string)
set_option linter.unusedVariables false
theorem own : ownKnob Try.prog.godebug = none := by kernel_rfl
theorem all12 : larderlaw0_all.f 200 Err.l12 = some true := by decide +kernel
theorem all13 : larderlaw0_all.f 200 Err.l13 = some true := by decide +kernel
set_option maxHeartbeats 1000000 in
theorem walk (w : World) : Calls Try.prog 3 #[] w fun e w' => e = .returned (.bool true) ∧ Below w.heap.size w w' := by
  go_enter Try.func3, Try.ntmps3
  go_wp2_with fail
  refine (Err.calls12 _).mono ?_
  rintro e w1 ⟨v, rfl, hR, hb⟩
  obtain ⟨A1, c1, rfl⟩ := Kd.R_slice hR
  have hr := Kd.R_reads' hR
  go_wp2_with fail
  refine (larderlaw0_all.calls 200 _ _ Err.l12 true _ hr.2.2 hr.2.1 all12).mono ?_
  rintro e w2 ⟨rfl, ⟨n, rfl⟩⟩
  go_wp2_with fail
  refine (Err.calls13 _).mono ?_
  rintro e w3 ⟨v3, rfl, hR3, hb3⟩
  obtain ⟨A3, c3, rfl⟩ := Kd.R_slice hR3
  have hr3 := Kd.R_reads' hR3
  go_wp2_with fail
  refine (larderlaw0_all.calls 200 _ _ Err.l13 true _ hr3.2.2 hr3.2.1 all13).mono ?_
  rintro e w4 ⟨rfl, ⟨n4, rfl⟩⟩
  go_wp2_with fail
  go_ret
  have h1 := pw_below_drewN hb n
  exact ⟨rfl, pw_below_drewN (h1.trans (hb3.mono h1.size)) n4⟩
set_option maxRecDepth 100000 in
theorem lifted (os : Os) (started : os.Started) (H : Type) (enc : TypeId × Value → H) :
    ReturnsInHanded {} Try.checked os 3 .any (Rows.apiErrorsSpec.pre6 enc Try.prog Try.f3 Rows.apiErrorsRow.domain false) (Rows.apiErrorsSpec.post enc Try.prog Try.f3 false true false false) := by
  refine returnsInHanded_of_change_sized (C := Try.checked) own started (by kernel_rfl) Try.func3
    (ChangeSpec.witness6 (enc := enc) (C := Try.checked) false ⟨#[], #[], []⟩ 8 (by kernel_rfl) (by kernel_rfl) (by kernel_rfl) (by kernel_rfl)) ?_
  intro W base args ds gs before hval0 hW hcnd hsz0 _
  have hsz : (DataW.weightsEach Try.prog (Try.f3.params.toList ++ Rows.apiErrorsSpec.plain.varTypes Try.prog) (ds ++ gs)).all (· ≤ reachBytes) = true := hsz0
  have hval : ∀ (j : Nat) t v, Try.f3.params[j]? = some t → args[j]? = some v → Value.okWide Try.prog W .any base t v := hval0
  have hW' := hW
  obtain ⟨p, q, hA0, hV, rfl, hfz, hnd⟩ := hW
  have hA : DataW.TrodAll enc Try.prog W 0 (fun _ => true) true Try.f3.params.toList args.toList ds p := hA0
  rw [Try.params3] at hA hval hsz
  obtain ⟨rfl, rfl, rfl⟩ := trodAll_none hA
  obtain ⟨rfl, rfl⟩ := trodVars_none hV
  clear hA0 hval0 hsz0 hsz
  refine (walk W).mono fun e W' ⟨he, bel⟩ => ?_
  subst he
  exact ⟨_, rfl, _, _, _, [], _, [], hW', trodAll_mk1 (shut_bool Try.underlying4 _), trodAll_mk0, rfl, bel.frame _, fun h => by cases h⟩
theorem over : Rows.apiErrorsRow.holds Try.pinned (OpenSpec.ofChange Rows.apiErrorsSpec) :=
  OpenClaim.holds_of_wide 3 Try.f3 rfl rfl rfl rfl rfl rfl rfl ⟨rfl, rfl, rfl, rfl, rfl⟩ rfl rfl rfl rfl rfl (by kernel_rfl) Try.func3 (by kernel_rfl)
    (of_decide_eq_true (by kernel_rfl)) (by unfold Func.isWrapper; first | (rw [if_pos (by decide +kernel)]; kernel_rfl) | (rw [if_neg (by decide +kernel)]; exact ⟨rfl, rfl⟩))
    (fun os started H enc _ => lifted os started H enc)
theorem proved : Rows.ApiErrorsSaid := over
#print axioms proved
end Go.Proofs.Ytdhkhjfjjbdkgaa.apiErrors
namespace Go.Proofs.Ytdhkhjfjjbdkgaa
/-- The row, under a short name, for the claim. -/
theorem apiErrors_holds : Rows.ApiErrorsSaid := apiErrors.proved
end Go.Proofs.Ytdhkhjfjjbdkgaa
