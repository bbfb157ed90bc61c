/- The pure statement of FnExactLeastModel: what is left to prove of the law over numbers and lists, and how an argument's reading gives its hypotheses. No conditions. -/
import Derived.Test.YtelfahcjeldliaaPFnExactLeastModelx7
import Derived.Test.YtelfahcjeldliaaReads
set_option linter.unusedVariables false
namespace Go.Proofs.Ytelfahcjeldliaa.PFnExactLeastModel
open Go.RowKit Go.Proofs.YtelfahcjeldliaaW.PrintWords Go.Proofs.YtelfahcjeldliaaW.PrintLast Go.Proofs.Ytelfahcjeldliaa
def laws_FnExactLeastModel.Pure : Prop := ∀ (a0_0 : Int) (l0_1 : List (List Int)), Reads.WFI a0_0 → (Reads.WFL 24 (Reads.WFL 8 Reads.WFI)) l0_1 → ∃ k, laws_FnExactLeastModel.f k a0_0 l0_1 = some true
end Go.Proofs.Ytelfahcjeldliaa.PFnExactLeastModel
