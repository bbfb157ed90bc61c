/- The pure statement of FnExactCountModels: what is left to prove of the law over numbers and lists, and how an argument's reading gives its hypotheses. No conditions. -/
import Derived.Test.YtdmeonkkbihbhaaPFnExactCountModelsx5
import Derived.Test.YtdmeonkkbihbhaaReads
set_option linter.unusedVariables false
namespace Go.Proofs.Ytdmeonkkbihbhaa.PFnExactCountModels
open Go.RowKit Go.Proofs.YtdmeonkkbihbhaaW.PrintWords Go.Proofs.YtdmeonkkbihbhaaW.PrintLast Go.Proofs.Ytdmeonkkbihbhaa
def laws_FnExactCountModels.Pure : Prop := ∀ (a0_0 : Int) (l0_1 : List (List Int)), Reads.WFI a0_0 → (Reads.WFL 24 (Reads.WFL 8 Reads.WFI)) l0_1 → ∃ k, laws_FnExactCountModels.f k a0_0 l0_1 = some true
end Go.Proofs.Ytdmeonkkbihbhaa.PFnExactCountModels
