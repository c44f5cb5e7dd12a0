/- Every exported constant of the program is the document's: the law answers true. No condition. -/
import Derived.Test.YtccbknhhgnefmaaPFnExactConstantsx1
namespace Go.Proofs.Ytccbknhhgnefmaa.Pure
open Go.RowKit Go.Proofs.Ytccbknhhgnefmaa.PFnExactConstants Go.Proofs.YtccbknhhgnefmaaW.PrintWords Go.Proofs.YtccbknhhgnefmaaW.PrintLast

/-- YOURS: laws_FnExactConstants.f  = some true
What it reaches (each with k first where it has rounds; `.mono`: more rounds tell the same; `.l0`, ..: its loops, with `.mono_l`): laws_FnExactConstants.f -/
theorem FnExactConstants : laws_FnExactConstants.Pure := by
  rfl

end Go.Proofs.Ytccbknhhgnefmaa.Pure
