/- The pure statement of FnCompares, and how an argument's reading gives its hypotheses. No conditions. -/
import Derived.Test.YtpcgepealdpinaaPFnComparesx7
import Derived.Test.YtpcgepealdpinaaReads
set_option linter.unusedVariables false
namespace Go.Proofs.Ytpcgepealdpinaa.PFnCompares
open Go.RowKit Go.Proofs.YtpcgepealdpinaaW.PrintWords Go.Proofs.YtpcgepealdpinaaW.PrintLast Go.Proofs.Ytpcgepealdpinaa
def WF8 (z : Int) : Prop := 0 ≤ z ∧ z ≤ 255
theorem byteR {P : Program} {t : TypeId} (ht : P.underlying t = some (.int .u8)) : Reads.Reads P t (Kd.int .u8) WF8 := by
  intro n H enc w base spare held cs x h _
  obtain ⟨z, rfl, rfl, hw⟩ := DataW.trod_int ht h
  refine ⟨z, rfl, ?_⟩
  simp only [Lit.wf, Bool.and_eq_true, decide_eq_true_eq] at hw
  exact hw
def laws_FnCompares.Pure : Prop := ∀ (l0 l1 : List Int), (Reads.WFL 1 WF8) l0 → (Reads.WFL 1 WF8) l1 → ∃ k, laws_FnCompares.f k l0 l1 = some true
end Go.Proofs.Ytpcgepealdpinaa.PFnCompares
