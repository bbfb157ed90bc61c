/- The pure statement of FnExactAtMostEx: what is left to prove of the law over numbers and lists, and how an argument's reading gives its hypotheses. No conditions. -/
import Derived.Test.YtcmkkoggdcjceaaPFnExactAtMostExx8
import Derived.Test.YtcmkkoggdcjceaaReads
set_option linter.unusedVariables false
namespace Go.Proofs.Ytcmkkoggdcjceaa.PFnExactAtMostEx
open Go.RowKit Go.Proofs.YtcmkkoggdcjceaaW.PrintWords Go.Proofs.YtcmkkoggdcjceaaW.PrintLast Go.Proofs.Ytcmkkoggdcjceaa
def wf24N : Nat → S24 → Prop
  | 0, _ => False
  | n + 1, x => Reads.WFI x.f0 ∧ (Reads.WFI x.f1 ∧ (Reads.WFL 40 (wf24N n) x.f2))
def wf24 (x : S24) : Prop := ∃ n, wf24N n x
def laws_FnExactAtMostEx.Pure : Prop := ∀ (a0 : Int) (l1 : List (S24)), Reads.WFI a0 → (Reads.WFL 40 wf24) l1 → ∃ k, laws_FnExactAtMostEx.f k a0 l1 = some true
theorem rk24 : Reads.Reads Try.prog 24 k24 wf24 := Reads.nested (wf := wf24N) (fun n h_ m_ hm_ => Reads.struct (wf := fun p => Reads.WFI (p.1) ∧ (Reads.WFI (p.2.1) ∧ (Reads.WFL 40 (wf24N n) (p.2.2)))) (fun x : S24 => (x.f0, x.f1, x.f2)) (fun p => ⟨p.1, p.2.1, p.2.2⟩) (fun _ => rfl) Try.underlying24 (by kernel_rfl) (fun m _ => (Reads.more rfl (by kernel_rfl) ((Reads.intR Try.underlying3) m) (Reads.more rfl (by kernel_rfl) ((Reads.intR Try.underlying3) m) (Reads.last rfl (by kernel_rfl) (Reads.slice (n := m) (t := 22) (e := 24) Try.underlying22 (by rw [sz24]; kernel_rfl) (by kernel_rfl) (fun q_ hq_ => h_ q_ (by omega))))))))
end Go.Proofs.Ytcmkkoggdcjceaa.PFnExactAtMostEx
