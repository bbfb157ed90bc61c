/- The pure statement of FnExactProofText: what is left to prove of the law over numbers and lists, and how an argument's reading gives its hypotheses. No conditions. -/
import Derived.Test.YtelfahcjeldliaaDoorPFnExactProofTextx5
import Derived.Test.YtelfahcjeldliaaDoorReads
set_option linter.unusedVariables false
namespace Go.Proofs.YtelfahcjeldliaaDoor.PFnExactProofText
open Go.RowKit Go.Proofs.YtelfahcjeldliaaDoorW.PrintWords Go.Proofs.YtelfahcjeldliaaDoorW.PrintLast Go.Proofs.YtelfahcjeldliaaDoor
def wf58 (x : S58) : Prop := (fun _ : Bool => True) x.f0 ∧ ((Reads.WFL 8 Reads.WFI) x.f1)
def laws_FnExactProofText.Pure : Prop := ∀ (l0 : List (S58)), (Reads.WFL 32 wf58) l0 → ∃ k, laws_FnExactProofText.f k l0 = some true
theorem rk58 : Reads.Reads Tryd.prog 58 k58 wf58 := fun _ => Reads.struct (fun x : S58 => (x.f0, x.f1)) (fun p => ⟨p.1, p.2⟩) (fun _ => rfl) Tryd.underlying58 (by kernel_rfl) (fun m _ => (Reads.more rfl (by kernel_rfl) ((Reads.boolR Tryd.underlying4) m) (Reads.last rfl (by kernel_rfl) ((Reads.sliceR (t := 52) (e := 3) Tryd.underlying52 (by kernel_rfl) (by kernel_rfl) (Reads.intR Tryd.underlying3)) m))))
end Go.Proofs.YtelfahcjeldliaaDoor.PFnExactProofText
