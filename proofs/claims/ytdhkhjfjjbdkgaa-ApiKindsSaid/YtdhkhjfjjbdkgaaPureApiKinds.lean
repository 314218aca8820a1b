/- ApiKinds: the closed sentence about package api answers true: the plain function that was printed of it is evaluated. No conditions. -/
import Derived.Test.YtdhkhjfjjbdkgaaPApiKindsx1
namespace Go.Proofs.Ytdhkhjfjjbdkgaa.Pure
open Go.RowKit Go.Proofs.Ytdhkhjfjjbdkgaa.PApiKinds Go.Proofs.YtdhkhjfjjbdkgaaW.PrintWords Go.Proofs.YtdhkhjfjjbdkgaaW.PrintLast

/-- YOURS: ∃ k, larderlaw0_ApiKinds.f k  = some true
What it reaches (each with k first where it has rounds; `.mono`: more rounds tell the same; `.l0`, ..: its loops, with `.mono_l`): larderlaw0_all.f, larderlaw0_kinds.f, larderlaw0_ApiKinds.f -/
theorem ApiKinds : larderlaw0_ApiKinds.Pure := by
  exact ⟨200, by decide +kernel⟩

end Go.Proofs.Ytdhkhjfjjbdkgaa.Pure
