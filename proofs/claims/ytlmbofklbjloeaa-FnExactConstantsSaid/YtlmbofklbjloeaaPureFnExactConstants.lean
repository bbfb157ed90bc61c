/- FnExactConstants: the law on the constants returns true (it has no argument). No conditions. -/
import Derived.Test.YtlmbofklbjloeaaPFnExactConstantsx1
namespace Go.Proofs.Ytlmbofklbjloeaa.Pure
open Go.RowKit Go.Proofs.Ytlmbofklbjloeaa.PFnExactConstants Go.Proofs.YtlmbofklbjloeaaW.PrintWords Go.Proofs.YtlmbofklbjloeaaW.PrintLast

/-- YOURS: laws_FnExactConstants.f  = some true
What it reaches (each with k first where it has rounds; `.mono`: more rounds tell the same; `.l0`, ..: its loops, with `.mono_l`): laws_FnExactConstants.f -/
theorem FnExactConstants : laws_FnExactConstants.Pure := by
  unfold laws_FnExactConstants.Pure
  rfl

end Go.Proofs.Ytlmbofklbjloeaa.Pure
