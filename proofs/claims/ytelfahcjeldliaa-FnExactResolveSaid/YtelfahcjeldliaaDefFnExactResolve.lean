/- The pure statement of FnExactResolve: what is left to prove of the law over numbers and lists, and how an argument's reading gives its hypotheses. No conditions. -/
import Derived.Test.YtelfahcjeldliaaPFnExactResolvex5
import Derived.Test.YtelfahcjeldliaaReads
set_option linter.unusedVariables false
namespace Go.Proofs.Ytelfahcjeldliaa.PFnExactResolve
open Go.RowKit Go.Proofs.YtelfahcjeldliaaW.PrintWords Go.Proofs.YtelfahcjeldliaaW.PrintLast Go.Proofs.Ytelfahcjeldliaa
def laws_FnExactResolve.Pure : Prop := ∀ (l0 : List Int) (l1 : List Int) (a2 : Int), (Reads.WFL 8 Reads.WFI) l0 → (Reads.WFL 8 Reads.WFI) l1 → Reads.WFI a2 → ∃ k, laws_FnExactResolve.f k l0 l1 a2 = some true
end Go.Proofs.Ytelfahcjeldliaa.PFnExactResolve
