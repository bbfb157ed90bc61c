/- The pure statement of FnExactDimacsText: what is left to prove of the law over numbers and lists, and how an argument's reading gives its hypotheses. No conditions. -/
import Derived.Test.YtelfahcjeldliaaDoorPFnExactDimacsTextx5
import Derived.Test.YtelfahcjeldliaaDoorReads
set_option linter.unusedVariables false
namespace Go.Proofs.YtelfahcjeldliaaDoor.PFnExactDimacsText
open Go.RowKit Go.Proofs.YtelfahcjeldliaaDoorW.PrintWords Go.Proofs.YtelfahcjeldliaaDoorW.PrintLast Go.Proofs.YtelfahcjeldliaaDoor
def laws_FnExactDimacsText.Pure : Prop := ∀ (a0_0 : Int) (l0_1 : List (List Int)), Reads.WFI a0_0 → (Reads.WFL 24 (Reads.WFL 8 Reads.WFI)) l0_1 → ∃ k, laws_FnExactDimacsText.f k a0_0 l0_1 = some true
end Go.Proofs.YtelfahcjeldliaaDoor.PFnExactDimacsText
