/- The pure statement of FnExactPropagate: what is left to prove of the law over numbers and lists, and how an argument's reading gives its hypotheses. No conditions. -/
import Derived.Test.YtelfahcjeldliaaPFnExactPropagatex6
import Derived.Test.YtelfahcjeldliaaReads
set_option linter.unusedVariables false
namespace Go.Proofs.Ytelfahcjeldliaa.PFnExactPropagate
open Go.RowKit Go.Proofs.YtelfahcjeldliaaW.PrintWords Go.Proofs.YtelfahcjeldliaaW.PrintLast Go.Proofs.Ytelfahcjeldliaa
def laws_FnExactPropagate.Pure : Prop := ∀ (a0_0 : Int) (l0_1 : List (List Int)) (l1 : List Int), Reads.WFI a0_0 → (Reads.WFL 24 (Reads.WFL 8 Reads.WFI)) l0_1 → (Reads.WFL 8 Reads.WFI) l1 → ∃ k, laws_FnExactPropagate.f k a0_0 l0_1 l1 = some true
end Go.Proofs.Ytelfahcjeldliaa.PFnExactPropagate
