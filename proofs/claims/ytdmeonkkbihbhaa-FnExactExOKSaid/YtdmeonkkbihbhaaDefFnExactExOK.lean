/- The pure statement of FnExactExOK: what is left to prove of the law over numbers and lists, and how an argument's reading gives its hypotheses. No conditions. -/
import Derived.Test.YtdmeonkkbihbhaaPFnExactExOKx4
import Derived.Test.YtdmeonkkbihbhaaReads
set_option linter.unusedVariables false
namespace Go.Proofs.Ytdmeonkkbihbhaa.PFnExactExOK
open Go.RowKit Go.Proofs.YtdmeonkkbihbhaaW.PrintWords Go.Proofs.YtdmeonkkbihbhaaW.PrintLast Go.Proofs.Ytdmeonkkbihbhaa
def wf66N : Nat → S66 → Prop
  | 0, _ => False
  | n + 1, x => Reads.WFI x.f0 ∧ (Reads.WFI x.f1 ∧ (Reads.WFL 40 (wf66N n) x.f2))
def wf66 (x : S66) : Prop := ∃ n, wf66N n x
def laws_FnExactExOK.Pure : Prop := ∀ (a0_0 : Int) (a0_1 : Int) (l0_2 : List (S66)), Reads.WFI a0_0 → Reads.WFI a0_1 → (Reads.WFL 40 wf66) l0_2 → ∃ k, laws_FnExactExOK.f k a0_0 a0_1 l0_2 = some true
theorem rk66 : Reads.Reads Try.prog 66 k66 wf66 := Reads.nested (wf := wf66N) (fun n h_ m_ hm_ => Reads.struct (wf := fun p => Reads.WFI (p.1) ∧ (Reads.WFI (p.2.1) ∧ (Reads.WFL 40 (wf66N n) (p.2.2)))) (fun x : S66 => (x.f0, x.f1, x.f2)) (fun p => ⟨p.1, p.2.1, p.2.2⟩) (fun _ => rfl) Try.underlying66 (by kernel_rfl) (fun m _ => (Reads.more rfl (by kernel_rfl) ((Reads.intR Try.underlying3) m) (Reads.more rfl (by kernel_rfl) ((Reads.intR Try.underlying3) m) (Reads.last rfl (by kernel_rfl) (Reads.slice (n := m) (t := 64) (e := 66) Try.underlying64 (by rw [sz66]; kernel_rfl) (by kernel_rfl) (fun q_ hq_ => h_ q_ (by omega))))))))
end Go.Proofs.Ytdmeonkkbihbhaa.PFnExactExOK
