/- The pure statement of FnExactAigOK: what is left to prove of the law over numbers and lists, and how an argument's reading gives its hypotheses. No conditions. -/
import Derived.Test.YtdmeonkkbihbhaaPFnExactAigOKx5
import Derived.Test.YtdmeonkkbihbhaaReads
set_option linter.unusedVariables false
namespace Go.Proofs.Ytdmeonkkbihbhaa.PFnExactAigOK
open Go.RowKit Go.Proofs.YtdmeonkkbihbhaaW.PrintWords Go.Proofs.YtdmeonkkbihbhaaW.PrintLast Go.Proofs.Ytdmeonkkbihbhaa
def wf132 (x : S132) : Prop := Reads.WFI x.f0 ∧ (Reads.WFI x.f1)
def laws_FnExactAigOK.Pure : Prop := ∀ (a0_0 : Int) (l0_1 : List (S132)), Reads.WFI a0_0 → (Reads.WFL 16 wf132) l0_1 → ∃ k, laws_FnExactAigOK.f k a0_0 l0_1 = some true
theorem rk132 : Reads.Reads Try.prog 132 k132 wf132 := fun _ => Reads.struct (fun x : S132 => (x.f0, x.f1)) (fun p => ⟨p.1, p.2⟩) (fun _ => rfl) Try.underlying132 (by kernel_rfl) (fun m _ => (Reads.more rfl (by kernel_rfl) ((Reads.intR Try.underlying3) m) (Reads.last rfl (by kernel_rfl) ((Reads.intR Try.underlying3) m))))
end Go.Proofs.Ytdmeonkkbihbhaa.PFnExactAigOK
