/- ApiLimits: the closed sentence about package api answers true: the plain function that was printed of it is evaluated. No conditions. -/
import Derived.Test.YtdhkhjfjjbdkgaaPApiLimitsx1
namespace Go.Proofs.Ytdhkhjfjjbdkgaa.Pure
open Go.RowKit Go.Proofs.Ytdhkhjfjjbdkgaa.PApiLimits Go.Proofs.YtdhkhjfjjbdkgaaW.PrintWords Go.Proofs.YtdhkhjfjjbdkgaaW.PrintLast

/-- YOURS: ∃ k, larderlaw0_ApiLimits.f k  = some true
What it reaches (each with k first where it has rounds; `.mono`: more rounds tell the same; `.l0`, ..: its loops, with `.mono_l`): larderlaw0_all.f, larderlaw0_limits.f, larderlaw0_ApiLimits.f -/
theorem ApiLimits : larderlaw0_ApiLimits.Pure := by
  exact ⟨200, by decide +kernel⟩

end Go.Proofs.Ytdhkhjfjjbdkgaa.Pure
