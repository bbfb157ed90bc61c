/- The pure statement of FnExactCnfOK: what is left to prove of the law over numbers and lists, and how an argument's reading gives its hypotheses. No conditions. -/
import Derived.Test.YtdmeonkkbihbhaaPFnExactCnfOKx3
import Derived.Test.YtdmeonkkbihbhaaReads
set_option linter.unusedVariables false
namespace Go.Proofs.Ytdmeonkkbihbhaa.PFnExactCnfOK
open Go.RowKit Go.Proofs.YtdmeonkkbihbhaaW.PrintWords Go.Proofs.YtdmeonkkbihbhaaW.PrintLast Go.Proofs.Ytdmeonkkbihbhaa
def laws_FnExactCnfOK.Pure : Prop := ∀ (a0_0 : Int) (l0_1 : List (List Int)), Reads.WFI a0_0 → (Reads.WFL 24 (Reads.WFL 8 Reads.WFI)) l0_1 → ∃ k, laws_FnExactCnfOK.f k a0_0 l0_1 = some true
end Go.Proofs.Ytdmeonkkbihbhaa.PFnExactCnfOK
