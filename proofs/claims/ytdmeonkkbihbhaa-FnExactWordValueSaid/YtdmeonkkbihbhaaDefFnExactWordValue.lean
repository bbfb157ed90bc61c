/- The pure statement of FnExactWordValue: what is left to prove of the law over numbers and lists, and how an argument's reading gives its hypotheses. No conditions. -/
import Derived.Test.YtdmeonkkbihbhaaPFnExactWordValuex8
import Derived.Test.YtdmeonkkbihbhaaReads
set_option linter.unusedVariables false
namespace Go.Proofs.Ytdmeonkkbihbhaa.PFnExactWordValue
open Go.RowKit Go.Proofs.YtdmeonkkbihbhaaW.PrintWords Go.Proofs.YtdmeonkkbihbhaaW.PrintLast Go.Proofs.Ytdmeonkkbihbhaa
def wf35N : Nat → S35 → Prop
  | 0, _ => False
  | n + 1, x => Reads.WFI x.f0 ∧ (Reads.WFI x.f1 ∧ (Reads.WFL 40 (wf35N n) x.f2))
def wf35 (x : S35) : Prop := ∃ n, wf35N n x
def laws_FnExactWordValue.Pure : Prop := ∀ (a0_0 : Int) (a0_1 : Int) (l0_2 : List (S35)) (a1 : Int) (l2 : List Int), Reads.WFI a0_0 → Reads.WFI a0_1 → (Reads.WFL 40 wf35) l0_2 → Reads.WFI a1 → (Reads.WFL 8 Reads.WFI) l2 → ∃ k, laws_FnExactWordValue.f k a0_0 a0_1 l0_2 a1 l2 = some true
theorem rk35 : Reads.Reads Try.prog 35 k35 wf35 := Reads.nested (wf := wf35N) (fun n h_ m_ hm_ => Reads.struct (wf := fun p => Reads.WFI (p.1) ∧ (Reads.WFI (p.2.1) ∧ (Reads.WFL 40 (wf35N n) (p.2.2)))) (fun x : S35 => (x.f0, x.f1, x.f2)) (fun p => ⟨p.1, p.2.1, p.2.2⟩) (fun _ => rfl) Try.underlying35 (by kernel_rfl) (fun m _ => (Reads.more rfl (by kernel_rfl) ((Reads.intR Try.underlying3) m) (Reads.more rfl (by kernel_rfl) ((Reads.intR Try.underlying3) m) (Reads.last rfl (by kernel_rfl) (Reads.slice (n := m) (t := 33) (e := 35) Try.underlying33 (by rw [sz35]; kernel_rfl) (by kernel_rfl) (fun q_ hq_ => h_ q_ (by omega))))))))
end Go.Proofs.Ytdmeonkkbihbhaa.PFnExactWordValue
