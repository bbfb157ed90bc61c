/- The pure statement of FnExactEvalCnf: what is left to prove of the law over numbers and lists, and how an argument's reading gives its hypotheses. No conditions. -/
import Derived.Test.YtdmeonkkbihbhaaPFnExactEvalCnfx4
import Derived.Test.YtdmeonkkbihbhaaReads
set_option linter.unusedVariables false
namespace Go.Proofs.Ytdmeonkkbihbhaa.PFnExactEvalCnf
open Go.RowKit Go.Proofs.YtdmeonkkbihbhaaW.PrintWords Go.Proofs.YtdmeonkkbihbhaaW.PrintLast Go.Proofs.Ytdmeonkkbihbhaa
def laws_FnExactEvalCnf.Pure : Prop := ∀ (a0_0 : Int) (l0_1 : List (List Int)) (l1 : List Bool), Reads.WFI a0_0 → (Reads.WFL 24 (Reads.WFL 8 Reads.WFI)) l0_1 → (Reads.WFL 1 (fun _ : Bool => True)) l1 → ∃ k, laws_FnExactEvalCnf.f k a0_0 l0_1 l1 = some true
end Go.Proofs.Ytdmeonkkbihbhaa.PFnExactEvalCnf
