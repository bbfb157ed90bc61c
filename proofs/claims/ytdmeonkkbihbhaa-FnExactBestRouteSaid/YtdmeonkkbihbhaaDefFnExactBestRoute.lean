/- The pure statement of FnExactBestRoute: what is left to prove of the law over numbers and lists, and how an argument's reading gives its hypotheses. No conditions. -/
import Derived.Test.YtdmeonkkbihbhaaPFnExactBestRoutex3
import Derived.Test.YtdmeonkkbihbhaaReads
set_option linter.unusedVariables false
namespace Go.Proofs.Ytdmeonkkbihbhaa.PFnExactBestRoute
open Go.RowKit Go.Proofs.YtdmeonkkbihbhaaW.PrintWords Go.Proofs.YtdmeonkkbihbhaaW.PrintLast Go.Proofs.Ytdmeonkkbihbhaa
def wf112 (x : S112) : Prop := Reads.WFI x.f0 ∧ (Reads.WFI x.f1 ∧ (Reads.WFI x.f2 ∧ ((fun _ : Bool => True) x.f3)))
def laws_FnExactBestRoute.Pure : Prop := ∀ (l0 : List (S112)), (Reads.WFL 32 wf112) l0 → ∃ k, laws_FnExactBestRoute.f k l0 = some true
theorem rk112 : Reads.Reads Try.prog 112 k112 wf112 := fun _ => Reads.struct (fun x : S112 => (x.f0, x.f1, x.f2, x.f3)) (fun p => ⟨p.1, p.2.1, p.2.2.1, p.2.2.2⟩) (fun _ => rfl) Try.underlying112 (by kernel_rfl) (fun m _ => (Reads.more rfl (by kernel_rfl) ((Reads.intR Try.underlying3) m) (Reads.more rfl (by kernel_rfl) ((Reads.intR Try.underlying3) m) (Reads.more rfl (by kernel_rfl) ((Reads.intR Try.underlying3) m) (Reads.last rfl (by kernel_rfl) ((Reads.boolR Try.underlying4) m))))))
end Go.Proofs.Ytdmeonkkbihbhaa.PFnExactBestRoute
