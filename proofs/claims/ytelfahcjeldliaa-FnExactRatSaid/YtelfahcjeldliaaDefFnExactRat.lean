/- The pure statement of FnExactRat: what is left to prove of the law over numbers and lists, and how an argument's reading gives its hypotheses. No conditions. -/
import Derived.Test.YtelfahcjeldliaaPFnExactRatx8
import Derived.Test.YtelfahcjeldliaaReads
set_option linter.unusedVariables false
namespace Go.Proofs.Ytelfahcjeldliaa.PFnExactRat
open Go.RowKit Go.Proofs.YtelfahcjeldliaaW.PrintWords Go.Proofs.YtelfahcjeldliaaW.PrintLast Go.Proofs.Ytelfahcjeldliaa
def laws_FnExactRat.Pure : Prop := ∀ (a0_0 : Int) (l0_1 : List (List Int)) (l1 : List Int), Reads.WFI a0_0 → (Reads.WFL 24 (Reads.WFL 8 Reads.WFI)) l0_1 → (Reads.WFL 8 Reads.WFI) l1 → ∃ k, laws_FnExactRat.f k a0_0 l0_1 l1 = some true
end Go.Proofs.Ytelfahcjeldliaa.PFnExactRat
