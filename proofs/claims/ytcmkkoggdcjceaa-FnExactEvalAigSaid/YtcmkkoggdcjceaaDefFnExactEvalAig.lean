/- The pure statement of FnExactEvalAig: what is left to prove of the law over numbers and lists, and how an argument's reading gives its hypotheses. No conditions. -/
import Derived.Test.YtcmkkoggdcjceaaPFnExactEvalAigx10
import Derived.Test.YtcmkkoggdcjceaaReads
set_option linter.unusedVariables false
namespace Go.Proofs.Ytcmkkoggdcjceaa.PFnExactEvalAig
open Go.RowKit Go.Proofs.YtcmkkoggdcjceaaW.PrintWords Go.Proofs.YtcmkkoggdcjceaaW.PrintLast Go.Proofs.Ytcmkkoggdcjceaa
def wf133 (x : S133) : Prop := Reads.WFI x.f0 ∧ (Reads.WFI x.f1)
def laws_FnExactEvalAig.Pure : Prop := ∀ (a0_0 : Int) (l0_1 : List (S133)) (l1 : List Int) (l2 : List Bool), Reads.WFI a0_0 → (Reads.WFL 16 wf133) l0_1 → (Reads.WFL 8 Reads.WFI) l1 → (Reads.WFL 1 (fun _ : Bool => True)) l2 → ∃ k, laws_FnExactEvalAig.f k a0_0 l0_1 l1 l2 = some true
theorem rk133 : Reads.Reads Try.prog 133 k133 wf133 := fun _ => Reads.struct (fun x : S133 => (x.f0, x.f1)) (fun p => ⟨p.1, p.2⟩) (fun _ => rfl) Try.underlying133 (by kernel_rfl) (fun m _ => (Reads.more rfl (by kernel_rfl) ((Reads.intR Try.underlying3) m) (Reads.last rfl (by kernel_rfl) ((Reads.intR Try.underlying3) m))))
end Go.Proofs.Ytcmkkoggdcjceaa.PFnExactEvalAig
