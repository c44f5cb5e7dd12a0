/- The program's RecEnd answers what the reference's RecEnd answers, for every text. No condition beyond the row's own. -/
import Derived.Test.YtccbknhhgnefmaaPFnExactRecEndx1
namespace Go.Proofs.Ytccbknhhgnefmaa.Pure
open Go.RowKit Go.Proofs.Ytccbknhhgnefmaa.PFnExactRecEnd Go.Proofs.YtccbknhhgnefmaaW.PrintWords Go.Proofs.YtccbknhhgnefmaaW.PrintLast

/-- YOURS: ∀ (a0 : ByteArray), a0.size ≤ 140737488351232 → laws_FnExactRecEnd.f a0 = some true
What it reaches (each with k first where it has rounds; `.mono`: more rounds tell the same; `.l0`, ..: its loops, with `.mono_l`): spec_RecEnd.f, impl_RecEnd.f, laws_FnExactRecEnd.f -/
theorem FnExactRecEnd : laws_FnExactRecEnd.Pure := by
  intro a _
  unfold laws_FnExactRecEnd.f spec_RecEnd.f impl_RecEnd.f
  split
  · rfl
  · split
    · rfl
    · split
      · rfl
      · split <;> rfl

end Go.Proofs.Ytccbknhhgnefmaa.Pure
